/- More on lists of the call's own beside other blocks. -/
import Derived.Test.YtckgdlgdipfgmaaGreatApp
namespace Go.Proofs.YtckgdlgdipfgmaaGreat
set_option linter.unusedVariables false
set_option linter.unusedSimpArgs false
open Go.RowKit

theorem Own.low {α : Type} {w : World} {base base' E k : Nat} {enc : α → List Value} {v : Value} {xs : List α} (h : Own w base E k enc v xs) (hb : base' ≤ base) : Own w base' E k enc v xs :=
  ⟨h.1, h.2.elim .inl fun ⟨g, cap, cur, a, b, c⟩ => .inr ⟨g, cap, cur, a, Nat.le_trans hb b, c⟩⟩
theorem Own.neBlk {α : Type} {w : World} {base E k g t : Nat} {cs : Array Value} {enc : α → List Value} {v : Value} {xs : List α} (h : Own w base E k enc v xs) (hB : Blk w g t cs) (ht : t ≠ E) : v.ownBlock ≠ some g := by
  rcases h.2 with ⟨rfl, _⟩ | ⟨g', cap, cur, rfl, hb, hg, _⟩
  · intro e; cases e
  · intro e
    have e' : g' = g := by injection e
    subst e'
    have h2 := hB
    unfold Blk at h2
    rw [hg] at h2
    injection h2 with h2
    injection h2 with _ h3 _
    exact ht h3.symm
theorem Own.farNe {α : Type} {w : World} {base E k : Nat} {enc : α → List Value} {v : Value} {xs : List α} (h : Own w base E k enc v xs) {p : Addr} (hp : v.ownBlock ≠ some p.block) (u : Value) : Own (w.setCell p u) base E k enc v xs :=
  h.kept (row := some p.block) (grown_setCell (World.grownBy.refl _ _) (.inl rfl) u) (.inr hp)
theorem Blk.appO {w w' : World} {v : Value} {g : Nat} {t : TypeId} {cs : Array Value} (h : Blk w g t cs) (hg : w.grownBy w' v.ownBlock) (hne : v.ownBlock ≠ some g) : Blk w' g t cs := (hg.block g h.lt (fun e => hne e.symm)).trans h
theorem Below.app2 {B : Nat} {a w w' : World} {v : Value} (hB : Below B a w) (hg : w.grownBy w' v.ownBlock) (hv : ∀ g, v.ownBlock = some g → B ≤ g) (ha : B ≤ w.heap.size) : Below B a w' :=
  hB.trans ⟨hg.os, hg.tape, hg.output, hg.size, fun i hi => hg.block i (by omega) (fun e => by have := hv i e.symm; omega)⟩
theorem Own.ne2 {α β : Type} {w : World} {b1 b2 E1 E2 k1 k2 : Nat} {enc1 : α → List Value} {enc2 : β → List Value} {v1 v2 : Value} {xs : List α} {ys : List β} (h1 : Own w b1 E1 k1 enc1 v1 xs) (h2 : Own w b2 E2 k2 enc2 v2 ys) (hE : E1 ≠ E2) : v1.ownBlock = none ∨ v1.ownBlock ≠ v2.ownBlock := by
  rcases h1.2 with ⟨rfl, _⟩ | ⟨g, cap, cur, rfl, hb, hg, _⟩
  · exact .inl rfl
  · refine .inr fun e => ?_
    exact h2.neBlk (g := g) (t := E1) (cs := cur) hg hE e.symm
end Go.Proofs.YtckgdlgdipfgmaaGreat
