/- What the operations of a region that draws its order by picks leave in their slots. -/
import Derived.Test.YtmlodhogfejdjaaPick
import Derived.Test.YtmlodhogfejdjaaSel
import Derived.Test.YtmlodhogfejdjaaPre
namespace Go.Proofs.Ytmlodhogfejdjaa
set_option linter.unusedVariables false
set_option linter.unusedSimpArgs false
open Go.RowKit
def isBool (v : Value) : Prop := ∃ x : Bool, v = .bool x
/-- What the operations of a drawing region leave in their slots. -/
inductive Ty
  | pure (p : Value → Prop)
  | lit (n : Nat) (lo hi : Int)
  | elt (lo hi : Int)
def isInt (lo hi : Int) (v : Value) : Prop := ∃ x, v = .int .i64 x ∧ lo ≤ x ∧ x < hi
def isPtr (r : Nat) (v : Value) : Prop := v = .pointer (some ⟨r, 0, none⟩)
def Ty.holds (r E : Nat) : Ty → Value → World → Prop
  | .pure p, v, _ => p v
  | .lit n lo hi, v, w => ∃ g cs, v = .slice (some ⟨g, 0, none⟩) n n ∧ r < g ∧ w.heap[g]? = some (.cells cs E (0, 0)) ∧ cs.size = n ∧ ∀ u ∈ cs.toList, isInt lo hi u
  | .elt lo hi, v, w => ∃ g i u, v = .pointer (some ⟨g, i, none⟩) ∧ r < g ∧ w.cell? ⟨g, i, none⟩ = some u ∧ isInt lo hi u
theorem Ty.stable {r E : Nat} (t : Ty) (v : Value) (w w' : World) (h : t.holds r E v w) (hg : w.grownBy w' (some r)) : t.holds r E v w' := by
  cases t with
  | pure p => exact h
  | lit n lo hi =>
    obtain ⟨g, cs, e, hr, hb, hc⟩ := h
    exact ⟨g, cs, e, hr, (hg.block g (Array.getElem?_eq_some_iff.1 hb).1 (fun e => by injection e; omega)).trans hb, hc⟩
  | elt lo hi =>
    obtain ⟨g, i, u, e, hr, hb, hc⟩ := h
    exact ⟨g, i, u, e, hr, hg.cell hb (fun e => by injection e with e; have : g = r := e; omega), hc⟩
theorem Ty.at_ {r E n g : Nat} {lo hi : Int} {w : World} {cs : Array Value} (hr : r < g) (hb : w.heap[g]? = some (.cells cs E (0, 0))) (hn : cs.size = n) (hc : ∀ u ∈ cs.toList, isInt lo hi u) {x : Int} (h0 : 0 ≤ x) (h1 : x < n) :
    (Ty.elt lo hi).holds r E (.pointer (some ⟨g, x.toNat, none⟩)) w := by
  obtain ⟨k, rfl⟩ := Int.eq_ofNat_of_zero_le h0
  have hk : k < cs.size := by omega
  refine ⟨g, k, cs[k], rfl, hr, ?_, hc _ (by simp)⟩
  rw [cell_of_row w g k cs E (0, 0) hb]
  exact Array.getElem?_eq_getElem hk

end Go.Proofs.Ytmlodhogfejdjaa
