/- Lists whose elements hold slices: their memory, what they say. -/
import Derived.Test.YtckgdlgdipfgmaaGreatFill
import Derived.Test.YtckgdlgdipfgmaaGreatPartT
import Derived.Test.YtckgdlgdipfgmaaGreatNear
namespace Go.Proofs.YtckgdlgdipfgmaaGreat
set_option linter.unusedVariables false
set_option linter.unusedSimpArgs false
open Go.RowKit

/-- A block of a size whose first cells are those of a list. -/
def UptoN (w : World) (g E size : Nat) (pre : List Value) : Prop := ∃ arr : Array Value, Blk w g E arr ∧ arr.size = size ∧ ∀ i, i < pre.length → arr[i]? = pre[i]?
section
variable {w w' : World} {g E size : Nat} {pre : List Value}
theorem UptoN.below (h : UptoN w g E size pre) (hb : Below w.heap.size w w') : UptoN w' g E size pre := by
  obtain ⟨arr, hB, h1, h2⟩ := h
  exact ⟨arr, hB.below hb, h1, h2⟩
theorem UptoN.frozen (h : UptoN w g E size pre) (i : Nat) : w.frozen? ⟨g, i, none⟩ = false := by
  obtain ⟨arr, hB, _⟩ := h
  exact hB.frozen i
theorem UptoN.has (h : UptoN w g E size pre) {i : Nat} (hi : i < size) : ∃ v, w.cell? ⟨g, i, none⟩ = some v := by
  obtain ⟨arr, hB, h1, _⟩ := h
  exact ⟨_, (hB.cell i).trans (Array.getElem?_eq_getElem (by omega))⟩
theorem UptoN.lt (h : UptoN w g E size pre) : g < w.heap.size := by
  obtain ⟨arr, hB, _⟩ := h
  exact hB.lt
theorem UptoN.set {o : Nat} (h : UptoN w g E size pre) (u : Value) (ho : o = pre.length) (hs : o < size) : UptoN (w.setCell ⟨g, o, none⟩ u) g E size (pre ++ [u]) := by
  subst ho
  obtain ⟨arr, hB, h1, h2⟩ := h
  refine ⟨_, hB.set_ _ u, by simpa using h1, fun i hi => ?_⟩
  by_cases e : i = pre.length
  · subst e
    rw [Array.getElem?_setIfInBounds_self_of_lt (by omega)]
    simp
  · have hi' : i < pre.length := by simp at hi; omega
    rw [Array.getElem?_setIfInBounds_ne (Ne.symm e), List.getElem?_append_left hi']
    exact h2 i hi'
theorem UptoN.full (h : UptoN w g E size pre) (ho : pre.length = size) : Blk w g E pre.toArray := by
  obtain ⟨arr, hB, h1, h2⟩ := h
  have : arr = pre.toArray := by
    apply Array.ext_getElem?
    intro i
    by_cases hi : i < pre.length
    · rw [h2 i hi]; simp
    · rw [Array.getElem?_eq_none (by omega)]; simp; omega
  rw [← this]; exact hB
theorem UptoN.made {base k n c : Nat} {α : Type} {enc : α → List Value} {ys : List α} (hk : Enc enc k) (h : Own w base E k enc (.slice (some ⟨g, 0, none⟩) n n) ys) : UptoN w g E (n * k) [] := by
  rcases h.2 with ⟨h1, _⟩ | ⟨g', cap, cur, h1, _, hb, _, _, hc, _⟩
  · cases h1
  · injection h1 with h1 h2 h3
    injection h1 with h1
    injection h1 with h1
    subst h1
    exact ⟨cur, hb, by rw [hc, ← h3], fun i hi => absurd hi (Nat.not_lt_zero _)⟩
end
theorem map_take_succ {α β : Type} {f : α → β} {l : List α} {kk : Nat} {x : α} (hx : l[kk]? = some x) : (l.take (kk + 1)).map f = (l.take kk).map f ++ [f x] := by
  rw [List.take_add_one, hx]; simp
theorem map_at {α α' β : Type} {f : α → β} {f' : α' → β} {l : List α} {l' : List α'} (h : l.map f = l'.map f') {kk : Nat} {x : α} {x' : α'} (hx : l[kk]? = some x) (hx' : l'[kk]? = some x') : f x = f' x' := by
  have h1 : (l.map f)[kk]? = some (f x) := by rw [List.getElem?_map, hx]; rfl
  have h2 : (l'.map f')[kk]? = some (f' x') := by rw [List.getElem?_map, hx']; rfl
  rw [h, h2] at h1
  injection h1 with h1
  exact h1.symm

abbrev OrdL := SV (Int × Int × Int)
abbrev CoreT := SV Int × Int × Bool
abbrev HoldR := SV Int
def eOL (x : OrdL) : List Value := [x.v]
def eCo (x : CoreT) : List Value := [x.1.v, .int .i64 x.2.1, .bool x.2.2]
def eHr (x : HoldR) : List Value := [x.v]
theorem encOL : Enc eOL 1 := ⟨fun _ => rfl, fun x u h => by simp [eOL] at h; subst h; rfl⟩
theorem encCo : Enc eCo 3 := ⟨fun _ => rfl, fun x u h => by simp [eCo] at h; rcases h with rfl | rfl | rfl <;> rfl⟩
theorem encHr : Enc eHr 1 := ⟨fun _ => rfl, fun x u h => by simp [eHr] at h; subst h; rfl⟩
/-- What an element says. -/
def cP (x : PartV) : List Win × Int := (x.1.xs, x.2)
def cO (x : OrdL) : List (Int × Int × Int) := x.xs
def cC (x : CoreT) : List Int × Int × Bool := (x.1.xs, x.2.1, x.2.2)
def cH (x : HoldR) : List Int := x.xs
/-- Its slice can be read. -/
def okP (w : World) (x : PartV) : Prop := Sl w 3 Win.cells x.1.A x.1.n x.1.c x.1.xs
def okO (w : World) (x : OrdL) : Prop := Sl w 3 eO x.A x.n x.c x.xs
def okC (w : World) (x : CoreT) : Prop := Sl w 1 eI x.1.A x.1.n x.1.c x.1.xs
def okH (w : World) (x : HoldR) : Prop := Sl w 1 eI x.A x.n x.c x.xs
/-- Its slice is short. -/
def smP (x : PartV) : Prop := x.1.n ≤ 1048576
def smO (x : OrdL) : Prop := x.n ≤ 1048576
def smC (x : CoreT) : Prop := x.1.n ≤ 1048576
def smH (x : HoldR) : Prop := x.n ≤ 1048576
section
variable {w w' : World}
theorem okP.below {x : PartV} (h : okP w x) (hb : Below w.heap.size w w') : okP w' x := Sl.below h hb
theorem okO.below {x : OrdL} (h : okO w x) (hb : Below w.heap.size w w') : okO w' x := Sl.below h hb
theorem okC.below {x : CoreT} (h : okC w x) (hb : Below w.heap.size w w') : okC w' x := Sl.below h hb
theorem okH.below {x : HoldR} (h : okH w x) (hb : Below w.heap.size w w') : okH w' x := Sl.below h hb
end
/-- A slice whose block lies behind a bound. -/
def Fr (base : Nat) (A : Option Addr) : Prop := ∀ b o, A = some ⟨b, o, none⟩ → base ≤ b
theorem Fr.some {base g : Nat} (h : base ≤ g) : Fr base (some ⟨g, 0, none⟩) := fun b o e => by injection e with e; injection e with e1 _; omega
theorem Fr.mono {base base' : Nat} {A : Option Addr} (h : Fr base A) (hb : base' ≤ base) : Fr base' A := fun b o e => Nat.le_trans hb (h b o e)
theorem Sl.setF {α : Type} {w : World} {k n c base : Nat} {enc : α → List Value} {A : Option Addr} {xs : List α} (h : Sl w k enc A n c xs) (hA : Fr base A) {p : Addr} (hp : p.block < base) (u : Value) : Sl (w.setCell p u) k enc A n c xs :=
  h.keep (by simp [World.setCell]) (fun b o e => Below.heap_setCell _ _ _ _ (by have := hA b o e; omega))
/-- An element's slice can be read, in a block behind a bound. -/
def liP (w : World) (base : Nat) (x : PartV) : Prop := okP w x ∧ Fr base x.1.A
def liO (w : World) (base : Nat) (x : OrdL) : Prop := okO w x ∧ Fr base x.A
def liC (w : World) (base : Nat) (x : CoreT) : Prop := okC w x ∧ Fr base x.1.A
def liH (w : World) (base : Nat) (x : HoldR) : Prop := okH w x ∧ Fr base x.A
section
variable {w w' : World} {base base' : Nat} {p : Addr} {u : Value}
theorem liP.below {x : PartV} (h : liP w base x) (hb : Below w.heap.size w w') : liP w' base x := ⟨okP.below h.1 hb, h.2⟩
theorem liO.below {x : OrdL} (h : liO w base x) (hb : Below w.heap.size w w') : liO w' base x := ⟨okO.below h.1 hb, h.2⟩
theorem liC.below {x : CoreT} (h : liC w base x) (hb : Below w.heap.size w w') : liC w' base x := ⟨okC.below h.1 hb, h.2⟩
theorem liH.below {x : HoldR} (h : liH w base x) (hb : Below w.heap.size w w') : liH w' base x := ⟨okH.below h.1 hb, h.2⟩
theorem liP.set {x : PartV} (h : liP w base x) (hp : p.block < base) : liP (w.setCell p u) base x := ⟨Sl.setF h.1 h.2 hp u, h.2⟩
theorem liO.set {x : OrdL} (h : liO w base x) (hp : p.block < base) : liO (w.setCell p u) base x := ⟨Sl.setF h.1 h.2 hp u, h.2⟩
theorem liC.set {x : CoreT} (h : liC w base x) (hp : p.block < base) : liC (w.setCell p u) base x := ⟨Sl.setF h.1 h.2 hp u, h.2⟩
theorem liH.set {x : HoldR} (h : liH w base x) (hp : p.block < base) : liH (w.setCell p u) base x := ⟨Sl.setF h.1 h.2 hp u, h.2⟩
theorem liP.mono {x : PartV} (h : liP w base x) (hb : base' ≤ base) : liP w base' x := ⟨h.1, h.2.mono hb⟩
theorem liO.mono {x : OrdL} (h : liO w base x) (hb : base' ≤ base) : liO w base' x := ⟨h.1, h.2.mono hb⟩
theorem liC.mono {x : CoreT} (h : liC w base x) (hb : base' ≤ base) : liC w base' x := ⟨h.1, h.2.mono hb⟩
theorem liH.mono {x : HoldR} (h : liH w base x) (hb : base' ≤ base) : liH w base' x := ⟨h.1, h.2.mono hb⟩
end
/-- All elements of a list; the list is short, and all its elements. -/
def AllE {β : Type} (q : β → Prop) (l : List β) : Prop := ∀ x ∈ l, q x
theorem AllE.mono {β : Type} {q q' : β → Prop} {l : List β} (h : AllE q l) (hq : ∀ x, q x → q' x) : AllE q' l := fun x hx => hq x (h x hx)
theorem AllE.add {β : Type} {q : β → Prop} {l : List β} (h : AllE q l) {y : β} (hy : q y) : AllE q (l ++ [y]) := fun x hx => (List.mem_append.1 hx).elim (h x) (fun h9 => by rw [List.mem_singleton.1 h9]; exact hy)
def shortL {β : Type} (n : Nat) (sm : β → Prop) (l : List β) : Prop := n ≤ 1048576 ∧ ∀ x ∈ l, sm x
end Go.Proofs.YtckgdlgdipfgmaaGreat
