/- A made block filled element by element. -/
import Derived.Test.YtckgdlgdipfgmaaGreatApp
namespace Go.Proofs.YtckgdlgdipfgmaaGreat
set_option linter.unusedVariables false
set_option linter.unusedSimpArgs false
open Go.RowKit

/-- A block whose first o cells are those of a list. -/
def Upto (w : World) (g E o : Nat) (flat : List Value) : Prop := ∃ arr : Array Value, Blk w g E arr ∧ arr.size = flat.length ∧ ∀ i, i < o → arr[i]? = flat[i]?
theorem Upto.below {w w' : World} {g E o : Nat} {flat : List Value} (h : Upto w g E o flat) (hb : Below w.heap.size w w') : Upto w' g E o flat := by
  obtain ⟨arr, hB, h1, h2⟩ := h
  exact ⟨arr, hB.below hb, h1, h2⟩
theorem Upto.frozen {w : World} {g E o : Nat} {flat : List Value} (h : Upto w g E o flat) (i : Nat) : w.frozen? ⟨g, i, none⟩ = false := by
  obtain ⟨arr, hB, _⟩ := h
  exact hB.frozen i
theorem Upto.has {w : World} {g E o : Nat} {flat : List Value} (h : Upto w g E o flat) {i : Nat} {u : Value} (hi : flat[i]? = some u) : ∃ v, w.cell? ⟨g, i, none⟩ = some v := by
  obtain ⟨arr, hB, h1, _⟩ := h
  have : i < arr.size := by rw [h1]; exact (List.getElem?_eq_some_iff.1 hi).1
  exact ⟨_, (hB.cell i).trans (Array.getElem?_eq_getElem this)⟩
theorem Upto.lt {w : World} {g E o : Nat} {flat : List Value} (h : Upto w g E o flat) : g < w.heap.size := by
  obtain ⟨arr, hB, _⟩ := h
  exact hB.lt
theorem Upto.set {w : World} {g E o : Nat} {flat : List Value} {u : Value} (h : Upto w g E o flat) (hu : flat[o]? = some u) : Upto (w.setCell ⟨g, o, none⟩ u) g E (o + 1) flat := by
  obtain ⟨arr, hB, h1, h2⟩ := h
  have ho : o < arr.size := by rw [h1]; exact (List.getElem?_eq_some_iff.1 hu).1
  refine ⟨_, hB.set_ o u, by simpa using h1, fun i hi => ?_⟩
  by_cases e : i = o
  · subst e
    rw [hu, Array.getElem?_setIfInBounds_self_of_lt ho]
  · rw [Array.getElem?_setIfInBounds_ne (Ne.symm e)]
    exact h2 i (by omega)
theorem Upto.full {w : World} {g E o : Nat} {flat : List Value} (h : Upto w g E o flat) (ho : flat.length ≤ o) : Blk w g E flat.toArray := by
  obtain ⟨arr, hB, h1, h2⟩ := h
  have : arr = flat.toArray := by
    apply Array.ext_getElem?
    intro i
    by_cases hi : i < flat.length
    · rw [h2 i (by omega)]; simp
    · rw [Array.getElem?_eq_none (by omega)]; simp; omega
  rw [← this]; exact hB
theorem Upto.made {w : World} {base E k g n c : Nat} {α : Type} {enc : α → List Value} {xs ys : List α} (hk : Enc enc k) (h : Own w base E k enc (.slice (some ⟨g, 0, none⟩) n n) ys) (hx : xs.length = ys.length) : Upto w g E 0 (xs.flatMap enc) := by
  rcases h.2 with ⟨h1, _⟩ | ⟨g', cap, cur, h1, _, hb, _, _, hc, _⟩
  · cases h1
  · injection h1 with h1 h2 h3
    injection h1 with h1
    injection h1 with h1
    subst h1
    refine ⟨cur, hb, ?_, fun i hi => absurd hi (Nat.not_lt_zero _)⟩
    rw [flatMap_len hk.len, hc, ← h3, hx, ← h2]
theorem flat_at {α : Type} {k : Nat} {enc : α → List Value} (hk : Enc enc k) {xs : List α} {j : Nat} {x : α} (hj : xs[j]? = some x) (i o : Nat) (u : Value) (hu : (enc x)[i]? = some u) (ho : o = j * k + i) : (xs.flatMap enc)[o]? = some u := by
  subst ho
  exact flatMap_get hk.len xs j x i u hj hu
/-- A slice of the call's own that is whole: what 'to..S' hands back. -/
def whole (n : Nat) (g : Nat) : Value := .slice (some ⟨g, 0, none⟩) n n
end Go.Proofs.YtckgdlgdipfgmaaGreat
