/- A region that draws its order, whose own operations only read and whose callees write nothing that was there: one walk in the text's order. The class of worlds: those in which nothing below the heap's size has turned. -/
import Derived.Test.YtckgdlgdipfgmaaGreatBase
import Derived.Deep.Quiet
import Derived.BigQuiet
namespace Go.Proofs.YtckgdlgdipfgmaaGreat
set_option linter.unusedVariables false
set_option linter.unusedSimpArgs false
open Go.RowKit

structure Near (w : World) where
  W : World
  b : Below w.heap.size w W

instance (w : World) : Nonempty (Near w) := ⟨⟨w, Below.refl _ _⟩⟩
theorem Near.drew (w : World) : Below w.heap.size w { w with drawn := w.drawn + 1 } := ⟨rfl, rfl, rfl, Nat.le_refl _, fun _ _ => rfl⟩

theorem wp_region_near {P : Program} {id : Nat} {Q : Exit → Act → World → Prop} {a : Act} {w : World} {l : List Oper} (hm : P.follows .mixedOrders = true) (hB : Region.lexB .any l.toArray = true)
    (h : wpQuiet P l.toArray (fun w' => ∃ n : Near w, w' = n.W) (fun a' => ∀ n : Near w, Q .normal a' n.W) l a) : (Code.region id l.toArray true).wp P Q a w := by
  refine wp_region_quiet (C := fun w' => ∃ n : Near w, w' = n.W) hm hB ⟨⟨_, Near.drew w⟩, rfl⟩ ?_
  have : (fun a' => ∀ w', (∃ n : Near w, w' = n.W) → Q .normal a' w') = (fun a' => ∀ n : Near w, Q .normal a' n.W) := by
    funext a'
    apply propext
    exact ⟨fun h n => h _ ⟨n, rfl⟩, fun h w' ⟨n, e⟩ => by rw [e]; exact h n⟩
  rw [this]
  exact h

theorem near_call {P : Program} {f : FuncId} {args : Array Value} {w : World} {x : Near w} {v : Value} (h : Calls P f args x.W fun e w' => .returned v = e ∧ Below x.W.heap.size x.W w') :
    Calls P f args x.W fun e w'' => e = .returned v ∧ ∃ y : Near w, w'' = y.W := h.mono fun _ _ ⟨a, b⟩ => ⟨a.symm, ⟨_, thn x.b b⟩, rfl⟩
theorem near_same {P : Program} {f : FuncId} {args : Array Value} {w : World} {x : Near w} {v : Value} (h : Calls P f args x.W fun e w' => .returned v = e ∧ x.W = w') :
    Calls P f args x.W fun e w'' => e = .returned v ∧ ∃ y : Near w, w'' = y.W := h.mono fun _ _ ⟨a, b⟩ => ⟨a.symm, x, b.symm⟩
theorem below_set3' {B g : Nat} {a w : World} (h : Below B a w) (hp : B ≤ g) (i j k : Nat) (x y z : Value) : Below B a (((w.setCell ⟨g, i, none⟩ x).setCell ⟨g, j, none⟩ y).setCell ⟨g, k, none⟩ z) :=
  ((h.setCell (p := ⟨g, i, none⟩) hp x).setCell (p := ⟨g, j, none⟩) hp y).setCell (p := ⟨g, k, none⟩) hp z
theorem below_set3 {B g : Nat} {a w : World} (h : Below B a w) (hp : B ≤ g) (x y z : Value) : Below B a (((w.setCell ⟨g, 0, none⟩ x).setCell ⟨g, 1, none⟩ y).setCell ⟨g, 2, none⟩ z) :=
  ((h.setCell (p := ⟨g, 0, none⟩) hp x).setCell (p := ⟨g, 1, none⟩) hp y).setCell (p := ⟨g, 2, none⟩) hp z
theorem Blk.near {w : World} {g : Nat} {t : TypeId} {cs : Array Value} (h : Blk w g t cs) (x : Near w) : Blk x.W g t cs := h.below x.b
end Go.Proofs.YtckgdlgdipfgmaaGreat
