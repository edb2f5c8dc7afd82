/- Words for memory and small lemmas, of no program. Literals of numbers, read at a drawn index. -/
import Derived.WalkKit
import Derived.WalkSmall
import Derived.BigQuiet
import Derived.Deep.QuietTactic
import Derived.Deep.Draws
import Derived.Deep.LoopGhost
import Derived.Lib.Hide

namespace Go.Proofs.YtckgdlgdipfgmaaGreat
set_option linter.unusedVariables false
set_option linter.unusedSimpArgs false
open Go.RowKit

/-- The reader: the block of a struct of a byte slice and a position. The bytes lie below the reader's own block. -/
structure RdAt (w : World) (r T : Nat) (A : Option Addr) (n c : Nat) (zs : List Int) (p : Int) : Prop where
  blk : w.heap[r]? = some (.cells #[.slice A n c, .int .i64 p] T (0, 0))
  n2000 : n ≤ 2000
  byte : ∀ i : Nat, 0 ≤ zs[i]?.getD 0 ∧ zs[i]?.getD 0 ≤ 255
  cells : 0 < n → ∃ b o, A = some ⟨b, o, none⟩ ∧ b < r ∧ ∀ i, i < n → w.cell? ⟨b, o + i, none⟩ = some (.int .u8 (zs[i]?.getD 0))

theorem RdAt.lt {w : World} {r T : Nat} {A : Option Addr} {n c : Nat} {zs : List Int} {p : Int} (h : RdAt w r T A n c zs p) : r < w.heap.size := by
  rcases Nat.lt_or_ge r w.heap.size with h1 | h1
  · exact h1
  · have := h.blk
    rw [Array.getElem?_eq_none h1] at this
    cases this

/-- A reader whose position is not beyond b. -/
def Rd (w : World) (r T : Nat) (b : Int) : Prop := ∃ A n c zs p, RdAt w r T A n c zs p ∧ 0 ≤ p ∧ p ≤ b

theorem Rd.lt {w : World} {r T : Nat} {b : Int} (h : Rd w r T b) : r < w.heap.size := by
  obtain ⟨_, _, _, _, _, h, _⟩ := h
  exact h.lt

theorem Rd.le {w : World} {r T : Nat} {b b' : Int} (h : Rd w r T b) (hb : b ≤ b') : Rd w r T b' := by
  obtain ⟨A, n, c, zs, p, h, h0, h1⟩ := h
  exact ⟨A, n, c, zs, p, h, h0, by omega⟩

theorem Rd.keep {w w' : World} {r T : Nat} {b : Int} (h : Rd w r T b) (hk : ∀ k, k ≤ r → w'.heap[k]? = w.heap[k]?) : Rd w' r T b := by
  obtain ⟨A, n, c, zs, p, ⟨h1, h2, h3, h4⟩, h0, hp⟩ := h
  refine ⟨A, n, c, zs, p, ⟨(hk r (Nat.le_refl _)).trans h1, h2, h3, fun hn => ?_⟩, h0, hp⟩
  obtain ⟨g, o, rfl, hg, hc⟩ := h4 hn
  exact ⟨g, o, rfl, hg, fun i hi => (World.cell?_of_block (w := w) (hk g (by omega))).trans (hc i hi)⟩

theorem Rd.below {w w' : World} {r T B : Nat} {b : Int} (h : Rd w r T b) (hb : Below B w w') (hr : r < B) : Rd w' r T b :=
  h.keep fun k hk => hb.block k (by omega)

theorem Rd.alloc {w : World} {r T : Nat} {b : Int} (h : Rd w r T b) (o : Obj) : Rd (w.alloc o) r T b :=
  h.keep fun k hk => Below.heap_alloc w o k (by have := h.lt; omega)

theorem Rd.drew {w : World} {r T : Nat} {b : Int} (h : Rd w r T b) : Rd w.drew r T b := h.keep fun _ _ => rfl
theorem Rd.drewN {w : World} {r T : Nat} {b : Int} (h : Rd w r T b) (k : Nat) : Rd (w.drewN k) r T b := h.keep fun _ _ => rfl

theorem Rd.setCell {w : World} {r T : Nat} {b : Int} (h : Rd w r T b) {p : Addr} (hp : r < p.block) (u : Value) : Rd (w.setCell p u) r T b :=
  h.keep fun k hk => Below.heap_setCell w p u k (by omega)

theorem Rd.grown {w w' : World} {r T : Nat} {b : Int} (h : Rd w r T b) {row : Option Nat} (hg : w.grownBy w' row) (hr : ∀ g, row = some g → r < g) : Rd w' r T b :=
  h.keep fun k hk => hg.block k (by have := h.lt; omega) (fun e => by have := hr k e.symm; omega)

/-- Block g is just the cells cs. -/
def Blk (w : World) (g : Nat) (t : TypeId) (cs : Array Value) : Prop := w.heap[g]? = some (.cells cs t (0, 0))
section
variable {w w' : World} {g : Nat} {t : TypeId} {cs : Array Value}
theorem Blk.lt (h : Blk w g t cs) : g < w.heap.size := by
  rcases Nat.lt_or_ge g w.heap.size with hlt | hge
  · exact hlt
  · unfold Blk at h; rw [Array.getElem?_eq_none hge] at h; cases h
theorem Blk.cell (h : Blk w g t cs) (i : Nat) : w.cell? ⟨g, i, none⟩ = cs[i]? := cell_of_row w g i cs t (0, 0) h
theorem Blk.frozen (h : Blk w g t cs) (i : Nat) : w.frozen? ⟨g, i, none⟩ = false := by
  unfold Blk at h
  simp [World.frozen?, h]
theorem Blk.new (w : World) (t : TypeId) (cs : Array Value) : Blk (w.alloc (.cells cs t)) w.heap.size t cs := heap_alloc_new w _
theorem Blk.drew (h : Blk w g t cs) : Blk w.drew g t cs := h
theorem Blk.drewN (h : Blk w g t cs) (n : Nat) : Blk (w.drewN n) g t cs := h
theorem Blk.alloc (h : Blk w g t cs) (o : Obj) : Blk (w.alloc o) g t cs := (Below.heap_alloc w o g h.lt).trans h
theorem Blk.set_ (h : Blk w g t cs) (i : Nat) (u : Value) : Blk (w.setCell ⟨g, i, none⟩ u) g t (cs.setIfInBounds i u) := by
  unfold Blk at h ⊢
  simp [World.setCell, Array.getElem?_modify, h]
theorem Blk.far (h : Blk w g t cs) {p : Addr} (hp : g ≠ p.block) (u : Value) : Blk (w.setCell p u) g t cs := (Below.heap_setCell w p u g hp).trans h
theorem Blk.below (h : Blk w g t cs) (hb : Below w.heap.size w w') : Blk w' g t cs := (hb.block g h.lt).trans h
end
/-- Calls one behind the other. -/
theorem thn {W w w' : World} (h : Below W.heap.size W w) (k : Below w.heap.size w w') : Below W.heap.size W w' := h.trans (k.mono h.size)
theorem alo {W w : World} (h : Below W.heap.size W w) (o : Obj) : Below W.heap.size W (w.alloc o) := h.alloc h.size o

/-- A post that names what is returned; the walk does not look into it. -/
def Post {α : Type} (f : α → Value) (P : α → World → Prop) (e : Ending) (w' : World) : Prop := ∃ x, e = .returned (f x) ∧ P x w'

/-- What one step of a reader does to the world: the reader's own block alone has turned, besides new blocks. -/
structure Stp (r T : Nat) (w : World) (b : Int) (w' : World) : Prop where
  grown : w.grownBy w' (some r)
  rd : Rd w' r T b

theorem Stp.refl {r T : Nat} {w : World} {b : Int} (h : Rd w r T b) : Stp r T w b w := ⟨World.grownBy.refl _ _, h⟩

theorem grown_trans {a b c : World} {row : Option Nat} (h : a.grownBy b row) (k : b.grownBy c row) : a.grownBy c row :=
  ⟨k.os.trans h.os, k.tape.trans h.tape, k.output.trans h.output, Nat.le_trans h.size k.size, fun i hi hne => (k.block i (Nat.lt_of_lt_of_le hi h.size) hne).trans (h.block i hi hne)⟩

theorem grown_of_below {a w : World} (h : Below a.heap.size a w) (row : Option Nat) : a.grownBy w row := ⟨h.os, h.tape, h.output, h.size, fun i hi _ => h.block i hi⟩
theorem grown_drew {a w : World} {row : Option Nat} (h : a.grownBy w row) : a.grownBy w.drew row := ⟨h.os, h.tape, h.output, h.size, h.block⟩
theorem grown_drewN {a w : World} {row : Option Nat} (h : a.grownBy w row) (n : Nat) : a.grownBy (w.drewN n) row := ⟨h.os, h.tape, h.output, h.size, h.block⟩
theorem grown_alloc {a w : World} {row : Option Nat} (h : a.grownBy w row) (o : Obj) : a.grownBy (w.alloc o) row :=
  ⟨h.os, h.tape, h.output, Nat.le_trans h.size (by simp), fun i hi hne => (Below.heap_alloc w o i (Nat.lt_of_lt_of_le hi h.size)).trans (h.block i hi hne)⟩
theorem grown_setCell {a w : World} {row : Option Nat} (h : a.grownBy w row) {p : Addr} (hp : row = some p.block ∨ a.heap.size ≤ p.block) (u : Value) : a.grownBy (w.setCell p u) row :=
  ⟨h.os, h.tape, h.output, by simpa [World.setCell] using h.size, fun i hi hne => (Below.heap_setCell w p u i (by
    rintro rfl
    rcases hp with hp | hp
    · exact hne (by rw [hp])
    · omega)).trans (h.block i hi hne)⟩
theorem grown_mono {a w w' : World} {row row' : Option Nat} (h : a.grownBy w row) (k : w.grownBy w' row') (hr : ∀ g, row' = some g → row = some g ∨ a.heap.size ≤ g) : a.grownBy w' row :=
  ⟨k.os.trans h.os, k.tape.trans h.tape, k.output.trans h.output, Nat.le_trans h.size k.size, fun i hi hne => (k.block i (Nat.lt_of_lt_of_le hi h.size) (fun e => by
    rcases hr i e.symm with h1 | h1
    · exact hne h1.symm
    · omega)).trans (h.block i hi hne)⟩

theorem Stp.trans {r T : Nat} {a w w' : World} {b b' : Int} (h : Stp r T a b w) (k : Stp r T w b' w') : Stp r T a b' w' := ⟨grown_trans h.grown k.grown, k.rd⟩
theorem Stp.alloc {r T : Nat} {a w : World} {b : Int} (h : Stp r T a b w) (o : Obj) : Stp r T a b (w.alloc o) := ⟨grown_alloc h.grown o, h.rd.alloc o⟩
theorem Stp.drew {r T : Nat} {a w : World} {b : Int} (h : Stp r T a b w) : Stp r T a b w.drew := ⟨grown_drew h.grown, h.rd.drew⟩
theorem Stp.drewN {r T : Nat} {a w : World} {b : Int} (h : Stp r T a b w) (n : Nat) : Stp r T a b (w.drewN n) := ⟨grown_drewN h.grown n, h.rd.drewN n⟩
theorem Stp.set {r T : Nat} {a w : World} {b : Int} {p : Addr} (u : Value) (h1 : a.heap.size ≤ p.block) (h2 : r < p.block) (h : Stp r T a b w) : Stp r T a b (w.setCell p u) := ⟨grown_setCell h.grown (.inr h1) u, h.rd.setCell h2 u⟩
theorem Stp.le {r T : Nat} {a w : World} {b b' : Int} (h : Stp r T a b w) (hb : b ≤ b') : Stp r T a b' w := ⟨h.grown, h.rd.le hb⟩

/-- Below a smaller bound of a step's world nothing has turned. -/
theorem Stp.below {r T B : Nat} {a w : World} {b : Int} (h : Stp r T a b w) (hB : B ≤ r) (ha : B ≤ a.heap.size) : Below B a w :=
  ⟨h.grown.os, h.grown.tape, h.grown.output, h.grown.size, fun k hk => h.grown.block k (by omega) (fun e => by injection e; omega)⟩


/-- A slice value that reads as a list of things of k cells each. -/
structure Sl {α : Type} (w : World) (k : Nat) (enc : α → List Value) (A : Option Addr) (n c : Nat) (xs : List α) : Prop where
  len : xs.length = n
  le : n ≤ c
  max : c ≤ 9223372036854775807
  cells : 0 < n → ∃ b o, A = some ⟨b, o, none⟩ ∧ b < w.heap.size ∧ ∀ j x, xs[j]? = some x → ∀ i u, (enc x)[i]? = some u → w.cell? ⟨b, o + j * k + i, none⟩ = some u

theorem Sl.keep {α : Type} {w w' : World} {k : Nat} {enc : α → List Value} {A : Option Addr} {n c : Nat} {xs : List α} (h : Sl w k enc A n c xs) (hs : w.heap.size ≤ w'.heap.size)
    (hk : ∀ b o, A = some ⟨b, o, none⟩ → w'.heap[b]? = w.heap[b]?) : Sl w' k enc A n c xs :=
  ⟨h.len, h.le, h.max, fun hn => by
    obtain ⟨b, o, rfl, hb, hc⟩ := h.cells hn
    exact ⟨b, o, rfl, by omega, fun j x hx i u hu => (World.cell?_of_block (w := w) (hk b o rfl)).trans (hc j x hx i u hu)⟩⟩

theorem Sl.below {α : Type} {w w' : World} {k : Nat} {enc : α → List Value} {A : Option Addr} {n c : Nat} {xs : List α} (h : Sl w k enc A n c xs) (hb : Below w.heap.size w w') : Sl w' k enc A n c xs :=
  ⟨h.len, h.le, h.max, fun hn => by
    obtain ⟨b, o, rfl, hlt, hc⟩ := h.cells hn
    exact ⟨b, o, rfl, by have := hb.size; omega, fun j x hx i u hu => (hb.cell (p := ⟨b, o + j * k + i, none⟩) hlt).trans (hc j x hx i u hu)⟩⟩

/-- The cells of elements. -/
def eI (x : Int) : List Value := [.int .i64 x]
def eS (x : Int × Int) : List Value := [.int .i64 x.1, .int .i64 x.2]
def eO (x : Int × Int × Int) : List Value := [.int .i64 x.1, .int .i64 x.2.1, .int .i64 x.2.2]
def eC (x : Int × Int × Int × Int) : List Value := [.int .i64 x.1, .int .i64 x.2.1, .int .i64 x.2.2.1, .int .i64 x.2.2.2]
def eH (x : Bool × Int) : List Value := [.bool x.1, .int .i64 x.2]

/-- A part of a slice that reads as a list. -/
theorem Sl.take_ {α : Type} {w : World} {k : Nat} {enc : α → List Value} {A : Option Addr} {n c : Nat} {xs : List α} (h : Sl w k enc A n c xs) (j : Nat) (hj : j ≤ n) : Sl w k enc A j c (xs.take j) :=
  ⟨by rw [List.length_take, h.len]; omega, Nat.le_trans hj h.le, h.max, fun hn => by
    obtain ⟨b, o, e, hb, hc⟩ := h.cells (by omega)
    refine ⟨b, o, e, hb, fun i x hx => hc i x ?_⟩
    rw [List.getElem?_take] at hx
    split at hx
    · exact hx
    · cases hx⟩
theorem Sl.drop_ {α : Type} {w : World} {k : Nat} {enc : α → List Value} {A A' : Option Addr} {n c c' : Nat} {xs : List α} (h : Sl w k enc A n c xs) (j : Nat) (hj : j ≤ n) (hc' : n - j ≤ c') (hm : c' ≤ 9223372036854775807)
    (hA : ∀ b o, A = some ⟨b, o, none⟩ → j < n → A' = some ⟨b, o + j * k, none⟩) : Sl w k enc A' (n - j) c' (xs.drop j) :=
  ⟨by rw [List.length_drop, h.len], hc', hm, fun hn => by
    obtain ⟨b, o, e, hb, hc⟩ := h.cells (by omega)
    refine ⟨b, o + j * k, hA b o e (by omega), hb, fun i x hx u v hv => ?_⟩
    rw [List.getElem?_drop] at hx
    have := hc (j + i) x hx u v hv
    rw [show o + j * k + i * k + u = o + (j + i) * k + u by rw [Nat.add_mul]; omega]
    exact this⟩
theorem flatMap_get {α : Type} {k : Nat} {enc : α → List Value} (hk : ∀ x, (enc x).length = k) : ∀ (xs : List α) (j : Nat) (x : α) (i : Nat) (u : Value), xs[j]? = some x → (enc x)[i]? = some u → (xs.flatMap enc)[j * k + i]? = some u
  | [], j, x, i, u, hx, _ => by simp at hx
  | y :: ys, 0, x, i, u, hx, hu => by
    have : y = x := by simpa using hx
    subst this
    have hi : i < (enc y).length := (List.getElem?_eq_some_iff.1 hu).1
    simp only [List.flatMap_cons, Nat.zero_mul, Nat.zero_add]
    rw [List.getElem?_append_left hi]
    exact hu
  | y :: ys, j + 1, x, i, u, hx, hu => by
    have h1 := flatMap_get hk ys j x i u (by simpa using hx) hu
    simp only [List.flatMap_cons]
    rw [List.getElem?_append_right (by rw [hk y, Nat.add_mul]; omega), hk y, show (j + 1) * k + i - k = j * k + i by rw [Nat.add_mul]; omega]
    exact h1
theorem flatMap_len {α : Type} {k : Nat} {enc : α → List Value} (hk : ∀ x, (enc x).length = k) (xs : List α) : (xs.flatMap enc).length = xs.length * k := by
  induction xs with
  | nil => simp
  | cons y ys ih => simp [List.flatMap_cons, hk y, ih, Nat.add_mul, Nat.add_comm]
/-- A row of the call's own, read as a list. -/
theorem Sl.of_own {α : Type} {w : World} {base e k n : Nat} {enc : α → List Value} (hk : ∀ x, (enc x).length = k) {v : Value} {xs : List α} (h : w.ownsRow base e k v n (xs.flatMap enc)) (hx : xs.length = n) :
    ∃ A c, v = .slice A n c ∧ Sl w k enc A n c xs ∧ (∀ b o, A = some ⟨b, o, none⟩ → base ≤ b ∧ b < w.heap.size) := by
  rcases h.2 with ⟨rfl, rfl⟩ | ⟨g, cap, cur, rfl, hb, hg, hnc, hm, hs, ht⟩
  · refine ⟨none, 0, rfl, ⟨hx, Nat.le_refl _, by omega, fun h => absurd h (by omega)⟩, fun b o h => by cases h⟩
  · have hlt : g < w.heap.size := by
      rcases Nat.lt_or_ge g w.heap.size with h1 | h1
      · exact h1
      · rw [Array.getElem?_eq_none h1] at hg; cases hg
    refine ⟨_, _, rfl, ⟨hx, hnc, by simpa [maxLen] using hm, fun hn => ⟨g, 0, rfl, hlt, fun j x hj i u hu => ?_⟩⟩, fun b o e => by injection e with e; injection e with e1 _; subst e1; exact ⟨hb, hlt⟩⟩
    have h1 := flatMap_get hk xs j x i u hj hu
    rw [Nat.zero_add, ← h.cellAt (j * k + i) ?_] at *
    · exact h1
    · have h2 : j * k + i < (xs.flatMap enc).length := (List.getElem?_eq_some_iff.1 h1).1
      rw [flatMap_len hk, hx] at h2
      exact h2

/-- Loops over a list: all before, and this one; one that fails; all. -/
theorem all_step {α : Type} {p : α → Bool} {xs : List α} {kk : Nat} {y : α} (h : ∀ j z, j < kk → xs[j]? = some z → p z = true) (hx : xs[kk]? = some y) (hp : p y = true) : ∀ j z, j < kk + 1 → xs[j]? = some z → p z = true := by
  intro j z hj hz
  by_cases e : j = kk
  · subst e
    rw [hx] at hz
    injection hz with hz
    rw [← hz]; exact hp
  · exact h j z (by omega) hz
theorem all_fails {α : Type} {p : α → Bool} {xs : List α} {kk : Nat} {y : α} (hx : xs[kk]? = some y) (hp : p y = false) : xs.all p = false := by
  rw [List.all_eq_false]
  obtain ⟨h, rfl⟩ := List.getElem?_eq_some_iff.1 hx
  exact ⟨_, List.getElem_mem h, by simp [hp]⟩
theorem all_holds {α : Type} {p : α → Bool} {xs : List α} {n : Nat} (hn : xs.length = n) (h : ∀ j z, j < n → xs[j]? = some z → p z = true) : xs.all p = true := by
  rw [List.all_eq_true]
  intro x hx
  obtain ⟨j, hj, rfl⟩ := List.getElem_of_mem hx
  exact h j _ (by omega) (List.getElem?_eq_getElem hj)
/-- The first index at which p holds, or -1. -/
def idxP {α : Type} (p : α → Bool) (xs : List α) : Int := match xs.findIdx? p with | some i => (i : Int) | none => -1

theorem idxP_hit {α : Type} (p : α → Bool) (xs : List α) (k : Nat) (x : α) (hx : xs[k]? = some x) (hp : p x = true) (hm : ∀ j y, j < k → xs[j]? = some y → p y = false) : idxP p xs = (k : Int) := by
  have : xs.findIdx? p = some k := by
    obtain ⟨hk, hxe⟩ := List.getElem?_eq_some_iff.1 hx
    rw [List.findIdx?_eq_some_iff_getElem]
    refine ⟨hk, by rw [hxe]; exact hp, fun j hj => ?_⟩
    have := hm j (xs[j]'(by omega)) hj (List.getElem?_eq_getElem (by omega))
    simpa using this
  simp [idxP, this]

theorem idxP_miss {α : Type} (p : α → Bool) (xs : List α) (hm : ∀ j y, j < xs.length → xs[j]? = some y → p y = false) : idxP p xs = -1 := by
  have : xs.findIdx? p = none := by
    rw [List.findIdx?_eq_none_iff]
    intro x hx
    obtain ⟨j, hj, rfl⟩ := List.getElem_of_mem hx
    exact hm j _ hj (List.getElem?_eq_getElem hj)
  simp [idxP, this]

theorem idxP_nonneg {α : Type} (p : α → Bool) (xs : List α) : decide (0 ≤ idxP p xs) = xs.any p := by
  unfold idxP
  cases h : xs.findIdx? p with
  | none =>
    have : xs.any p = false := by
      rw [List.findIdx?_eq_none_iff] at h
      simpa using h
    simp [this]
  | some i =>
    have : xs.any p = true := by
      rw [List.findIdx?_eq_some_iff_getElem] at h
      obtain ⟨hi, hp, _⟩ := h
      rw [List.any_eq_true]
      exact ⟨_, List.getElem_mem hi, hp⟩
    simp [this]

theorem idxP_lt {α : Type} (p : α → Bool) (xs : List α) : -1 ≤ idxP p xs ∧ idxP p xs < xs.length := by
  unfold idxP
  cases h : xs.findIdx? p with
  | none => simp; omega
  | some i =>
    rw [List.findIdx?_eq_some_iff_getElem] at h
    obtain ⟨hi, _⟩ := h
    simp; omega

/-- What is asked of a predicate on structs: called with any of them, in every world in which what lay in w lies unturned. -/
def Pred {α : Type} (P : Program) (g : Nat) (lb : Array Value) (enc : α → Value) (ok : α → Prop) (p : α → Bool) (w : World) : Prop :=
  ∀ (W : World) (x : α), ok x → Below w.heap.size w W → Calls P g (#[enc x] ++ lb) W fun e w' => .returned (.bool (p x)) = e ∧ Below W.heap.size W w'

end Go.Proofs.YtckgdlgdipfgmaaGreat

namespace Go.Proofs.YtckgdlgdipfgmaaGreat
set_option linter.unusedVariables false
set_option linter.unusedSimpArgs false
open Go.RowKit

/-- The number at an index of a list. -/
def sel (xs : List Int) (i : Int) : Int := xs[i.toNat]?.getD 0
theorem Stp.keep {r T : Nat} {w w' : World} {b : Int} (h : Stp r T w b w') (k o : Nat) (h1 : ¬ k = r) (h2 : k < w.heap.size) : w'.cell? ⟨k, o, none⟩ = w.cell? ⟨k, o, none⟩ :=
  World.cell?_of_block (w := w) (h.grown.block k h2 (fun e => h1 (by injection e)))
theorem Stp.keepF {r T : Nat} {w w' : World} {b : Int} (h : Stp r T w b w') (k o : Nat) (h1 : ¬ k = r) (h2 : k < w.heap.size) : w'.frozen? ⟨k, o, none⟩ = w.frozen? ⟨k, o, none⟩ :=
  World.frozen?_of_block (w := w) (h.grown.block k h2 (fun e => h1 (by injection e)))
theorem Stp.oldc {r T : Nat} {w w' : World} {b : Int} (h : Stp r T w b w') (hr : r ≤ w.heap.size) (k o : Nat) (h1 : k < r) : w'.cell? ⟨k, o, none⟩ = w.cell? ⟨k, o, none⟩ := h.keep k o (by omega) (by omega)
theorem Stp.oldf {r T : Nat} {w w' : World} {b : Int} (h : Stp r T w b w') (hr : r ≤ w.heap.size) (k o : Nat) (h1 : k < r) : w'.frozen? ⟨k, o, none⟩ = w.frozen? ⟨k, o, none⟩ := h.keepF k o (by omega) (by omega)
theorem Rd.old {r T : Nat} {w : World} {b : Int} (h : Rd w r T b) (k : Nat) (h1 : k < r) : k < w.heap.size ∧ ¬ k = w.heap.size ∧ ¬ k = w.heap.size + 1 ∧ ¬ k = w.heap.size + 2 := by have := h.lt; omega
theorem below_keep {B : Nat} {w w' : World} (h : Below B w w') (k o : Nat) (h2 : k < B) : w'.cell? ⟨k, o, none⟩ = w.cell? ⟨k, o, none⟩ := h.cell (p := ⟨k, o, none⟩) h2
theorem below_keepF {B : Nat} {w w' : World} (h : Below B w w') (k o : Nat) (h2 : k < B) : w'.frozen? ⟨k, o, none⟩ = w.frozen? ⟨k, o, none⟩ := h.frozen (p := ⟨k, o, none⟩) h2
theorem below_lts {B : Nat} {w w' : World} (h : Below B w w') (k : Nat) (h2 : k < w.heap.size) : k < w'.heap.size := Nat.lt_of_lt_of_le h2 h.size
theorem Stp.undrew {r T : Nat} {w w' : World} {b : Int} (h : Stp r T w.drew b w') : Stp r T w b w' := ⟨⟨h.grown.os, h.grown.tape, h.grown.output, h.grown.size, h.grown.block⟩, h.rd⟩

/-- The blocks of L are new ones, behind the reader's own. -/
def Zs (r : Nat) (L : List Nat) (w : World) : Prop := ∀ k, k ∈ L → r < k ∧ k < w.heap.size
theorem Zs.nil (r : Nat) (w : World) : Zs r [] w := fun k hk => by cases hk
theorem Zs.a1 {r : Nat} {L : List Nat} {w : World} (h : Zs r L w) (hr : r < w.heap.size) (o : Obj) : Zs r (w.heap.size :: L) (w.alloc o) := fun k hk => by
  rcases List.mem_cons.1 hk with e | e
  · subst e; exact ⟨hr, by simp⟩
  · have := h k e; exact ⟨this.1, by simp; omega⟩
theorem Zs.s0 {r T : Nat} {L : List Nat} {w w' : World} {b : Int} (h : Zs r L w) (hs : Stp r T w b w') : Zs r L w' := fun k hk => ⟨(h k hk).1, Nat.lt_of_lt_of_le (h k hk).2 hs.grown.size⟩
theorem Zs.facts {r : Nat} {L : List Nat} {w : World} (h : Zs r L w) (k : Nat) (hk : k ∈ L) : k < w.heap.size ∧ ¬ k = w.heap.size ∧ ¬ k = w.heap.size + 1 ∧ ¬ k = r := by have := h k hk; omega
theorem Zs.keep {r T : Nat} {L : List Nat} {w w' : World} {b : Int} (h : Zs r L w) (hs : Stp r T w b w') (k o : Nat) (hk : k ∈ L) : w'.cell? ⟨k, o, none⟩ = w.cell? ⟨k, o, none⟩ := by
  have := h k hk
  exact hs.keep k o (by omega) this.2
theorem Stp.belowT {r T B : Nat} {a w w' : World} {b : Int} (h : Stp r T w b w') (hb : Below B a w) (hB : B ≤ r) (hw : B ≤ w.heap.size) : Below B a w' := hb.trans (h.below hB hw)

theorem lit2 {v : Int} (h0 : 0 ≤ v) (h1 : v < 2) (W : World) (T : TypeId) (a0 a1 : Int) (k : Nat) (hk : W.heap.size = k) :
    (W.alloc (.cells #[.int .i64 a0, .int .i64 a1] T)).cell? ⟨k, v.toNat, none⟩ = some (.int .i64 (sel [a0, a1] v)) := by
  subst hk
  obtain ⟨i, rfl⟩ := Int.eq_ofNat_of_zero_le h0
  have : i = 0 ∨ i = 1 := by omega
  rcases this with rfl | rfl <;> simp [sel]
theorem lit3 {v : Int} (h0 : 0 ≤ v) (h1 : v < 3) (W : World) (T : TypeId) (a0 a1 a2 : Int) (k : Nat) (hk : W.heap.size = k) :
    (W.alloc (.cells #[.int .i64 a0, .int .i64 a1, .int .i64 a2] T)).cell? ⟨k, v.toNat, none⟩ = some (.int .i64 (sel [a0, a1, a2] v)) := by
  subst hk
  obtain ⟨i, rfl⟩ := Int.eq_ofNat_of_zero_le h0
  have : i = 0 ∨ i = 1 ∨ i = 2 := by omega
  rcases this with rfl | rfl | rfl <;> simp [sel]
theorem lit4 {v : Int} (h0 : 0 ≤ v) (h1 : v < 4) (W : World) (T : TypeId) (a0 a1 a2 a3 : Int) (k : Nat) (hk : W.heap.size = k) :
    (W.alloc (.cells #[.int .i64 a0, .int .i64 a1, .int .i64 a2, .int .i64 a3] T)).cell? ⟨k, v.toNat, none⟩ = some (.int .i64 (sel [a0, a1, a2, a3] v)) := by
  subst hk
  obtain ⟨i, rfl⟩ := Int.eq_ofNat_of_zero_le h0
  have : i = 0 ∨ i = 1 ∨ i = 2 ∨ i = 3 := by omega
  rcases this with rfl | rfl | rfl | rfl <;> simp [sel]
theorem lit5 {v : Int} (h0 : 0 ≤ v) (h1 : v < 5) (W : World) (T : TypeId) (a0 a1 a2 a3 a4 : Int) (k : Nat) (hk : W.heap.size = k) :
    (W.alloc (.cells #[.int .i64 a0, .int .i64 a1, .int .i64 a2, .int .i64 a3, .int .i64 a4] T)).cell? ⟨k, v.toNat, none⟩ = some (.int .i64 (sel [a0, a1, a2, a3, a4] v)) := by
  subst hk
  obtain ⟨i, rfl⟩ := Int.eq_ofNat_of_zero_le h0
  have : i = 0 ∨ i = 1 ∨ i = 2 ∨ i = 3 ∨ i = 4 := by omega
  rcases this with rfl | rfl | rfl | rfl | rfl <;> simp [sel]
theorem lit6 {v : Int} (h0 : 0 ≤ v) (h1 : v < 6) (W : World) (T : TypeId) (a0 a1 a2 a3 a4 a5 : Int) (k : Nat) (hk : W.heap.size = k) :
    (W.alloc (.cells #[.int .i64 a0, .int .i64 a1, .int .i64 a2, .int .i64 a3, .int .i64 a4, .int .i64 a5] T)).cell? ⟨k, v.toNat, none⟩ = some (.int .i64 (sel [a0, a1, a2, a3, a4, a5] v)) := by
  subst hk
  obtain ⟨i, rfl⟩ := Int.eq_ofNat_of_zero_le h0
  have : i = 0 ∨ i = 1 ∨ i = 2 ∨ i = 3 ∨ i = 4 ∨ i = 5 := by omega
  rcases this with rfl | rfl | rfl | rfl | rfl | rfl <;> simp [sel]
theorem lit7 {v : Int} (h0 : 0 ≤ v) (h1 : v < 7) (W : World) (T : TypeId) (a0 a1 a2 a3 a4 a5 a6 : Int) (k : Nat) (hk : W.heap.size = k) :
    (W.alloc (.cells #[.int .i64 a0, .int .i64 a1, .int .i64 a2, .int .i64 a3, .int .i64 a4, .int .i64 a5, .int .i64 a6] T)).cell? ⟨k, v.toNat, none⟩ = some (.int .i64 (sel [a0, a1, a2, a3, a4, a5, a6] v)) := by
  subst hk
  obtain ⟨i, rfl⟩ := Int.eq_ofNat_of_zero_le h0
  have : i = 0 ∨ i = 1 ∨ i = 2 ∨ i = 3 ∨ i = 4 ∨ i = 5 ∨ i = 6 := by omega
  rcases this with rfl | rfl | rfl | rfl | rfl | rfl | rfl <;> simp [sel]
theorem lit8 {v : Int} (h0 : 0 ≤ v) (h1 : v < 8) (W : World) (T : TypeId) (a0 a1 a2 a3 a4 a5 a6 a7 : Int) (k : Nat) (hk : W.heap.size = k) :
    (W.alloc (.cells #[.int .i64 a0, .int .i64 a1, .int .i64 a2, .int .i64 a3, .int .i64 a4, .int .i64 a5, .int .i64 a6, .int .i64 a7] T)).cell? ⟨k, v.toNat, none⟩ = some (.int .i64 (sel [a0, a1, a2, a3, a4, a5, a6, a7] v)) := by
  subst hk
  obtain ⟨i, rfl⟩ := Int.eq_ofNat_of_zero_le h0
  have : i = 0 ∨ i = 1 ∨ i = 2 ∨ i = 3 ∨ i = 4 ∨ i = 5 ∨ i = 6 ∨ i = 7 := by omega
  rcases this with rfl | rfl | rfl | rfl | rfl | rfl | rfl | rfl <;> simp [sel]
theorem lit9 {v : Int} (h0 : 0 ≤ v) (h1 : v < 9) (W : World) (T : TypeId) (a0 a1 a2 a3 a4 a5 a6 a7 a8 : Int) (k : Nat) (hk : W.heap.size = k) :
    (W.alloc (.cells #[.int .i64 a0, .int .i64 a1, .int .i64 a2, .int .i64 a3, .int .i64 a4, .int .i64 a5, .int .i64 a6, .int .i64 a7, .int .i64 a8] T)).cell? ⟨k, v.toNat, none⟩ = some (.int .i64 (sel [a0, a1, a2, a3, a4, a5, a6, a7, a8] v)) := by
  subst hk
  obtain ⟨i, rfl⟩ := Int.eq_ofNat_of_zero_le h0
  have : i = 0 ∨ i = 1 ∨ i = 2 ∨ i = 3 ∨ i = 4 ∨ i = 5 ∨ i = 6 ∨ i = 7 ∨ i = 8 := by omega
  rcases this with rfl | rfl | rfl | rfl | rfl | rfl | rfl | rfl | rfl <;> simp [sel]

theorem litg2 {v : Int} (h0 : 0 ≤ v) (h1 : v < 2) (a0 a1 : Int) (h : v.toNat < ([.int .i64 a0, .int .i64 a1] : List Value).length) :
    ([.int .i64 a0, .int .i64 a1] : List Value)[v.toNat]'h = .int .i64 (sel [a0, a1] v) := by
  obtain ⟨i, rfl⟩ := Int.eq_ofNat_of_zero_le h0
  have : i = 0 ∨ i = 1 := by omega
  rcases this with rfl | rfl <;> simp [sel]
theorem litg3 {v : Int} (h0 : 0 ≤ v) (h1 : v < 3) (a0 a1 a2 : Int) (h : v.toNat < ([.int .i64 a0, .int .i64 a1, .int .i64 a2] : List Value).length) :
    ([.int .i64 a0, .int .i64 a1, .int .i64 a2] : List Value)[v.toNat]'h = .int .i64 (sel [a0, a1, a2] v) := by
  obtain ⟨i, rfl⟩ := Int.eq_ofNat_of_zero_le h0
  have : i = 0 ∨ i = 1 ∨ i = 2 := by omega
  rcases this with rfl | rfl | rfl <;> simp [sel]
theorem litg4 {v : Int} (h0 : 0 ≤ v) (h1 : v < 4) (a0 a1 a2 a3 : Int) (h : v.toNat < ([.int .i64 a0, .int .i64 a1, .int .i64 a2, .int .i64 a3] : List Value).length) :
    ([.int .i64 a0, .int .i64 a1, .int .i64 a2, .int .i64 a3] : List Value)[v.toNat]'h = .int .i64 (sel [a0, a1, a2, a3] v) := by
  obtain ⟨i, rfl⟩ := Int.eq_ofNat_of_zero_le h0
  have : i = 0 ∨ i = 1 ∨ i = 2 ∨ i = 3 := by omega
  rcases this with rfl | rfl | rfl | rfl <;> simp [sel]
theorem litg5 {v : Int} (h0 : 0 ≤ v) (h1 : v < 5) (a0 a1 a2 a3 a4 : Int) (h : v.toNat < ([.int .i64 a0, .int .i64 a1, .int .i64 a2, .int .i64 a3, .int .i64 a4] : List Value).length) :
    ([.int .i64 a0, .int .i64 a1, .int .i64 a2, .int .i64 a3, .int .i64 a4] : List Value)[v.toNat]'h = .int .i64 (sel [a0, a1, a2, a3, a4] v) := by
  obtain ⟨i, rfl⟩ := Int.eq_ofNat_of_zero_le h0
  have : i = 0 ∨ i = 1 ∨ i = 2 ∨ i = 3 ∨ i = 4 := by omega
  rcases this with rfl | rfl | rfl | rfl | rfl <;> simp [sel]
theorem litg6 {v : Int} (h0 : 0 ≤ v) (h1 : v < 6) (a0 a1 a2 a3 a4 a5 : Int) (h : v.toNat < ([.int .i64 a0, .int .i64 a1, .int .i64 a2, .int .i64 a3, .int .i64 a4, .int .i64 a5] : List Value).length) :
    ([.int .i64 a0, .int .i64 a1, .int .i64 a2, .int .i64 a3, .int .i64 a4, .int .i64 a5] : List Value)[v.toNat]'h = .int .i64 (sel [a0, a1, a2, a3, a4, a5] v) := by
  obtain ⟨i, rfl⟩ := Int.eq_ofNat_of_zero_le h0
  have : i = 0 ∨ i = 1 ∨ i = 2 ∨ i = 3 ∨ i = 4 ∨ i = 5 := by omega
  rcases this with rfl | rfl | rfl | rfl | rfl | rfl <;> simp [sel]
theorem litg7 {v : Int} (h0 : 0 ≤ v) (h1 : v < 7) (a0 a1 a2 a3 a4 a5 a6 : Int) (h : v.toNat < ([.int .i64 a0, .int .i64 a1, .int .i64 a2, .int .i64 a3, .int .i64 a4, .int .i64 a5, .int .i64 a6] : List Value).length) :
    ([.int .i64 a0, .int .i64 a1, .int .i64 a2, .int .i64 a3, .int .i64 a4, .int .i64 a5, .int .i64 a6] : List Value)[v.toNat]'h = .int .i64 (sel [a0, a1, a2, a3, a4, a5, a6] v) := by
  obtain ⟨i, rfl⟩ := Int.eq_ofNat_of_zero_le h0
  have : i = 0 ∨ i = 1 ∨ i = 2 ∨ i = 3 ∨ i = 4 ∨ i = 5 ∨ i = 6 := by omega
  rcases this with rfl | rfl | rfl | rfl | rfl | rfl | rfl <;> simp [sel]
theorem litg8 {v : Int} (h0 : 0 ≤ v) (h1 : v < 8) (a0 a1 a2 a3 a4 a5 a6 a7 : Int) (h : v.toNat < ([.int .i64 a0, .int .i64 a1, .int .i64 a2, .int .i64 a3, .int .i64 a4, .int .i64 a5, .int .i64 a6, .int .i64 a7] : List Value).length) :
    ([.int .i64 a0, .int .i64 a1, .int .i64 a2, .int .i64 a3, .int .i64 a4, .int .i64 a5, .int .i64 a6, .int .i64 a7] : List Value)[v.toNat]'h = .int .i64 (sel [a0, a1, a2, a3, a4, a5, a6, a7] v) := by
  obtain ⟨i, rfl⟩ := Int.eq_ofNat_of_zero_le h0
  have : i = 0 ∨ i = 1 ∨ i = 2 ∨ i = 3 ∨ i = 4 ∨ i = 5 ∨ i = 6 ∨ i = 7 := by omega
  rcases this with rfl | rfl | rfl | rfl | rfl | rfl | rfl | rfl <;> simp [sel]
theorem litg9 {v : Int} (h0 : 0 ≤ v) (h1 : v < 9) (a0 a1 a2 a3 a4 a5 a6 a7 a8 : Int) (h : v.toNat < ([.int .i64 a0, .int .i64 a1, .int .i64 a2, .int .i64 a3, .int .i64 a4, .int .i64 a5, .int .i64 a6, .int .i64 a7, .int .i64 a8] : List Value).length) :
    ([.int .i64 a0, .int .i64 a1, .int .i64 a2, .int .i64 a3, .int .i64 a4, .int .i64 a5, .int .i64 a6, .int .i64 a7, .int .i64 a8] : List Value)[v.toNat]'h = .int .i64 (sel [a0, a1, a2, a3, a4, a5, a6, a7, a8] v) := by
  obtain ⟨i, rfl⟩ := Int.eq_ofNat_of_zero_le h0
  have : i = 0 ∨ i = 1 ∨ i = 2 ∨ i = 3 ∨ i = 4 ∨ i = 5 ∨ i = 6 ∨ i = 7 ∨ i = 8 := by omega
  rcases this with rfl | rfl | rfl | rfl | rfl | rfl | rfl | rfl | rfl <;> simp [sel]

theorem Blk.stp {r T : Nat} {w w' : World} {b : Int} {g : Nat} {t : TypeId} {cs : Array Value} (hs : Stp r T w b w') (h : Blk w g t cs) (hne : g ≠ r) : Blk w' g t cs :=
  (hs.grown.block g h.lt (fun e => hne (by injection e))).trans h
theorem Blk.new2 (w : World) (o : Obj) (t : TypeId) (cs : Array Value) : Blk ((w.alloc o).alloc (.cells cs t)) (w.heap.size + 1) t cs := by
  have := Blk.new (w.alloc o) t cs
  rwa [show (w.alloc o).heap.size = w.heap.size + 1 by simp] at this
theorem Blk.new3 (w : World) (o o' : Obj) (t : TypeId) (cs : Array Value) : Blk (((w.alloc o).alloc o').alloc (.cells cs t)) (w.heap.size + 1 + 1) t cs := by
  have := Blk.new ((w.alloc o).alloc o') t cs
  rwa [show ((w.alloc o).alloc o').heap.size = w.heap.size + 1 + 1 by simp] at this
/-- The cells of a block that is a literal. -/
theorem Blk.c0 {w : World} {g : Nat} {t : TypeId} { a : Value} {l : List Value} (h : Blk w g t (List.toArray (a :: l))) : w.cell? ⟨g, 0, none⟩ = some a := (h.cell 0).trans rfl
theorem Blk.c1 {w : World} {g : Nat} {t : TypeId} {x0 a : Value} {l : List Value} (h : Blk w g t (List.toArray (x0 :: a :: l))) : w.cell? ⟨g, 1, none⟩ = some a := (h.cell 1).trans rfl
theorem Blk.c2 {w : World} {g : Nat} {t : TypeId} {x0 x1 a : Value} {l : List Value} (h : Blk w g t (List.toArray (x0 :: x1 :: a :: l))) : w.cell? ⟨g, 2, none⟩ = some a := (h.cell 2).trans rfl
theorem Blk.c3 {w : World} {g : Nat} {t : TypeId} {x0 x1 x2 a : Value} {l : List Value} (h : Blk w g t (List.toArray (x0 :: x1 :: x2 :: a :: l))) : w.cell? ⟨g, 3, none⟩ = some a := (h.cell 3).trans rfl
theorem Blk.c4 {w : World} {g : Nat} {t : TypeId} {x0 x1 x2 x3 a : Value} {l : List Value} (h : Blk w g t (List.toArray (x0 :: x1 :: x2 :: x3 :: a :: l))) : w.cell? ⟨g, 4, none⟩ = some a := (h.cell 4).trans rfl
theorem Blk.c5 {w : World} {g : Nat} {t : TypeId} {x0 x1 x2 x3 x4 a : Value} {l : List Value} (h : Blk w g t (List.toArray (x0 :: x1 :: x2 :: x3 :: x4 :: a :: l))) : w.cell? ⟨g, 5, none⟩ = some a := (h.cell 5).trans rfl
theorem Blk.c6 {w : World} {g : Nat} {t : TypeId} {x0 x1 x2 x3 x4 x5 a : Value} {l : List Value} (h : Blk w g t (List.toArray (x0 :: x1 :: x2 :: x3 :: x4 :: x5 :: a :: l))) : w.cell? ⟨g, 6, none⟩ = some a := (h.cell 6).trans rfl
theorem Blk.c7 {w : World} {g : Nat} {t : TypeId} {x0 x1 x2 x3 x4 x5 x6 a : Value} {l : List Value} (h : Blk w g t (List.toArray (x0 :: x1 :: x2 :: x3 :: x4 :: x5 :: x6 :: a :: l))) : w.cell? ⟨g, 7, none⟩ = some a := (h.cell 7).trans rfl
theorem Blk.belowOf {w0 w w' : World} {g : Nat} {t : TypeId} {cs0 cs : Array Value} (_ : Blk w0 g t cs0) (hb : Below w.heap.size w w') (h : Blk w g t cs) : Blk w' g t cs := h.below hb
/-- The same, the block's number and type taken from an elder fact. -/
theorem Blk.stpOf {r T : Nat} {w0 w w' : World} {b : Int} {g : Nat} {t : TypeId} {cs0 cs : Array Value} (_ : Blk w0 g t cs0) (hs : Stp r T w b w') (h : Blk w g t cs) (hne : g ≠ r) : Blk w' g t cs := Blk.stp hs h hne
theorem litq2 {v : Int} (h0 : 0 ≤ v) (h1 : v < 2) (a0 a1 : Int) : (#[.int .i64 a0, .int .i64 a1] : Array Value)[v.toNat]? = some (.int .i64 (sel [a0, a1] v)) := by
  obtain ⟨i, rfl⟩ := Int.eq_ofNat_of_zero_le h0
  have : i = 0 ∨ i = 1 := by omega
  rcases this with rfl | rfl <;> simp [sel]
theorem litq3 {v : Int} (h0 : 0 ≤ v) (h1 : v < 3) (a0 a1 a2 : Int) : (#[.int .i64 a0, .int .i64 a1, .int .i64 a2] : Array Value)[v.toNat]? = some (.int .i64 (sel [a0, a1, a2] v)) := by
  obtain ⟨i, rfl⟩ := Int.eq_ofNat_of_zero_le h0
  have : i = 0 ∨ i = 1 ∨ i = 2 := by omega
  rcases this with rfl | rfl | rfl <;> simp [sel]
theorem litq4 {v : Int} (h0 : 0 ≤ v) (h1 : v < 4) (a0 a1 a2 a3 : Int) : (#[.int .i64 a0, .int .i64 a1, .int .i64 a2, .int .i64 a3] : Array Value)[v.toNat]? = some (.int .i64 (sel [a0, a1, a2, a3] v)) := by
  obtain ⟨i, rfl⟩ := Int.eq_ofNat_of_zero_le h0
  have : i = 0 ∨ i = 1 ∨ i = 2 ∨ i = 3 := by omega
  rcases this with rfl | rfl | rfl | rfl <;> simp [sel]
theorem litq5 {v : Int} (h0 : 0 ≤ v) (h1 : v < 5) (a0 a1 a2 a3 a4 : Int) : (#[.int .i64 a0, .int .i64 a1, .int .i64 a2, .int .i64 a3, .int .i64 a4] : Array Value)[v.toNat]? = some (.int .i64 (sel [a0, a1, a2, a3, a4] v)) := by
  obtain ⟨i, rfl⟩ := Int.eq_ofNat_of_zero_le h0
  have : i = 0 ∨ i = 1 ∨ i = 2 ∨ i = 3 ∨ i = 4 := by omega
  rcases this with rfl | rfl | rfl | rfl | rfl <;> simp [sel]
theorem litq6 {v : Int} (h0 : 0 ≤ v) (h1 : v < 6) (a0 a1 a2 a3 a4 a5 : Int) : (#[.int .i64 a0, .int .i64 a1, .int .i64 a2, .int .i64 a3, .int .i64 a4, .int .i64 a5] : Array Value)[v.toNat]? = some (.int .i64 (sel [a0, a1, a2, a3, a4, a5] v)) := by
  obtain ⟨i, rfl⟩ := Int.eq_ofNat_of_zero_le h0
  have : i = 0 ∨ i = 1 ∨ i = 2 ∨ i = 3 ∨ i = 4 ∨ i = 5 := by omega
  rcases this with rfl | rfl | rfl | rfl | rfl | rfl <;> simp [sel]
theorem litq7 {v : Int} (h0 : 0 ≤ v) (h1 : v < 7) (a0 a1 a2 a3 a4 a5 a6 : Int) : (#[.int .i64 a0, .int .i64 a1, .int .i64 a2, .int .i64 a3, .int .i64 a4, .int .i64 a5, .int .i64 a6] : Array Value)[v.toNat]? = some (.int .i64 (sel [a0, a1, a2, a3, a4, a5, a6] v)) := by
  obtain ⟨i, rfl⟩ := Int.eq_ofNat_of_zero_le h0
  have : i = 0 ∨ i = 1 ∨ i = 2 ∨ i = 3 ∨ i = 4 ∨ i = 5 ∨ i = 6 := by omega
  rcases this with rfl | rfl | rfl | rfl | rfl | rfl | rfl <;> simp [sel]
theorem litq8 {v : Int} (h0 : 0 ≤ v) (h1 : v < 8) (a0 a1 a2 a3 a4 a5 a6 a7 : Int) : (#[.int .i64 a0, .int .i64 a1, .int .i64 a2, .int .i64 a3, .int .i64 a4, .int .i64 a5, .int .i64 a6, .int .i64 a7] : Array Value)[v.toNat]? = some (.int .i64 (sel [a0, a1, a2, a3, a4, a5, a6, a7] v)) := by
  obtain ⟨i, rfl⟩ := Int.eq_ofNat_of_zero_le h0
  have : i = 0 ∨ i = 1 ∨ i = 2 ∨ i = 3 ∨ i = 4 ∨ i = 5 ∨ i = 6 ∨ i = 7 := by omega
  rcases this with rfl | rfl | rfl | rfl | rfl | rfl | rfl | rfl <;> simp [sel]
theorem litq9 {v : Int} (h0 : 0 ≤ v) (h1 : v < 9) (a0 a1 a2 a3 a4 a5 a6 a7 a8 : Int) : (#[.int .i64 a0, .int .i64 a1, .int .i64 a2, .int .i64 a3, .int .i64 a4, .int .i64 a5, .int .i64 a6, .int .i64 a7, .int .i64 a8] : Array Value)[v.toNat]? = some (.int .i64 (sel [a0, a1, a2, a3, a4, a5, a6, a7, a8] v)) := by
  obtain ⟨i, rfl⟩ := Int.eq_ofNat_of_zero_le h0
  have : i = 0 ∨ i = 1 ∨ i = 2 ∨ i = 3 ∨ i = 4 ∨ i = 5 ∨ i = 6 ∨ i = 7 ∨ i = 8 := by omega
  rcases this with rfl | rfl | rfl | rfl | rfl | rfl | rfl | rfl | rfl <;> simp [sel]

theorem litq {cs : List Int} {v : Int} (h0 : 0 ≤ v) (h1 : v < cs.length) : ((cs.flatMap eI).toArray)[v.toNat]? = some (.int .i64 (sel cs v)) := by
  obtain ⟨i, rfl⟩ := Int.eq_ofNat_of_zero_le h0
  have hi : i < cs.length := by omega
  have h2 := flatMap_get (enc := eI) (k := 1) (fun _ => rfl) cs i cs[i] 0 _ (List.getElem?_eq_getElem hi) rfl
  simp only [Nat.mul_one, Nat.add_zero] at h2
  simp only [Int.toNat_natCast, sel, List.getElem?_toArray, h2, List.getElem?_eq_getElem hi]
  rfl
/-- The bounds of a selected number, where all are bounded. -/
theorem sel_bd {lo hi : Int} (xs : List Int) (h : ∀ x ∈ xs, lo ≤ x ∧ x < hi) (hn : 0 < xs.length) (v : Int) (h0 : 0 ≤ v) (h1 : v < xs.length) : lo ≤ sel xs v ∧ sel xs v < hi := by
  obtain ⟨i, rfl⟩ := Int.eq_ofNat_of_zero_le h0
  have hi' : i < xs.length := by omega
  unfold sel
  rw [Int.toNat_natCast, List.getElem?_eq_getElem hi']
  exact h _ (List.getElem_mem hi')
end Go.Proofs.YtckgdlgdipfgmaaGreat
