/- Literals of numbers, read at a drawn index. -/
import Derived.Test.YtckgdlgdipfgmaaGreatBase
namespace Go.Proofs.YtckgdlgdipfgmaaGreat
set_option linter.unusedVariables false
set_option linter.unusedSimpArgs false
open Go.RowKit

/-- The number at an index of a list. -/
def sel (xs : List Int) (i : Int) : Int := xs[i.toNat]?.getD 0
theorem Stp.keep {r T : Nat} {w w' : World} {b : Int} (h : Stp r T w b w') (k o : Nat) (h1 : ¬ k = r) (h2 : k < w.heap.size) : w'.cell? ⟨k, o, none⟩ = w.cell? ⟨k, o, none⟩ :=
  World.cell?_of_block (w := w) (h.grown.block k h2 (fun e => h1 (by injection e)))
theorem Stp.keepF {r T : Nat} {w w' : World} {b : Int} (h : Stp r T w b w') (k o : Nat) (h1 : ¬ k = r) (h2 : k < w.heap.size) : w'.frozen? ⟨k, o, none⟩ = w.frozen? ⟨k, o, none⟩ :=
  World.frozen?_of_block (w := w) (h.grown.block k h2 (fun e => h1 (by injection e)))
theorem Stp.oldc {r T : Nat} {w w' : World} {b : Int} (h : Stp r T w b w') (hr : r ≤ w.heap.size) (k o : Nat) (h1 : k < r) : w'.cell? ⟨k, o, none⟩ = w.cell? ⟨k, o, none⟩ := h.keep k o (by omega) (by omega)
theorem Stp.oldf {r T : Nat} {w w' : World} {b : Int} (h : Stp r T w b w') (hr : r ≤ w.heap.size) (k o : Nat) (h1 : k < r) : w'.frozen? ⟨k, o, none⟩ = w.frozen? ⟨k, o, none⟩ := h.keepF k o (by omega) (by omega)
theorem Rd.old {r T : Nat} {w : World} {b : Int} (h : Rd w r T b) (k : Nat) (h1 : k < r) : k < w.heap.size ∧ ¬ k = w.heap.size ∧ ¬ k = w.heap.size + 1 ∧ ¬ k = w.heap.size + 2 := by have := h.lt; omega
theorem below_keep {B : Nat} {w w' : World} (h : Below B w w') (k o : Nat) (h2 : k < B) : w'.cell? ⟨k, o, none⟩ = w.cell? ⟨k, o, none⟩ := h.cell (p := ⟨k, o, none⟩) h2
theorem below_keepF {B : Nat} {w w' : World} (h : Below B w w') (k o : Nat) (h2 : k < B) : w'.frozen? ⟨k, o, none⟩ = w.frozen? ⟨k, o, none⟩ := h.frozen (p := ⟨k, o, none⟩) h2
theorem below_lts {B : Nat} {w w' : World} (h : Below B w w') (k : Nat) (h2 : k < w.heap.size) : k < w'.heap.size := Nat.lt_of_lt_of_le h2 h.size
theorem Stp.undrew {r T : Nat} {w w' : World} {b : Int} (h : Stp r T w.drew b w') : Stp r T w b w' := ⟨⟨h.grown.os, h.grown.tape, h.grown.output, h.grown.size, h.grown.block⟩, h.rd⟩

/-- The blocks of L are new ones, behind the reader's own. -/
def Zs (r : Nat) (L : List Nat) (w : World) : Prop := ∀ k, k ∈ L → r < k ∧ k < w.heap.size
theorem Zs.nil (r : Nat) (w : World) : Zs r [] w := fun k hk => by cases hk
theorem Zs.a1 {r : Nat} {L : List Nat} {w : World} (h : Zs r L w) (hr : r < w.heap.size) (o : Obj) : Zs r (w.heap.size :: L) (w.alloc o) := fun k hk => by
  rcases List.mem_cons.1 hk with e | e
  · subst e; exact ⟨hr, by simp⟩
  · have := h k e; exact ⟨this.1, by simp; omega⟩
theorem Zs.s0 {r T : Nat} {L : List Nat} {w w' : World} {b : Int} (h : Zs r L w) (hs : Stp r T w b w') : Zs r L w' := fun k hk => ⟨(h k hk).1, Nat.lt_of_lt_of_le (h k hk).2 hs.grown.size⟩
theorem Zs.facts {r : Nat} {L : List Nat} {w : World} (h : Zs r L w) (k : Nat) (hk : k ∈ L) : k < w.heap.size ∧ ¬ k = w.heap.size ∧ ¬ k = w.heap.size + 1 ∧ ¬ k = r := by have := h k hk; omega
theorem Zs.keep {r T : Nat} {L : List Nat} {w w' : World} {b : Int} (h : Zs r L w) (hs : Stp r T w b w') (k o : Nat) (hk : k ∈ L) : w'.cell? ⟨k, o, none⟩ = w.cell? ⟨k, o, none⟩ := by
  have := h k hk
  exact hs.keep k o (by omega) this.2
theorem Stp.belowT {r T B : Nat} {a w w' : World} {b : Int} (h : Stp r T w b w') (hb : Below B a w) (hB : B ≤ r) (hw : B ≤ w.heap.size) : Below B a w' := hb.trans (h.below hB hw)

theorem lit2 {v : Int} (h0 : 0 ≤ v) (h1 : v < 2) (W : World) (T : TypeId) (a0 a1 : Int) (k : Nat) (hk : W.heap.size = k) :
    (W.alloc (.cells #[.int .i64 a0, .int .i64 a1] T)).cell? ⟨k, v.toNat, none⟩ = some (.int .i64 (sel [a0, a1] v)) := by
  subst hk
  obtain ⟨i, rfl⟩ := Int.eq_ofNat_of_zero_le h0
  have : i = 0 ∨ i = 1 := by omega
  rcases this with rfl | rfl <;> simp [sel]
theorem lit3 {v : Int} (h0 : 0 ≤ v) (h1 : v < 3) (W : World) (T : TypeId) (a0 a1 a2 : Int) (k : Nat) (hk : W.heap.size = k) :
    (W.alloc (.cells #[.int .i64 a0, .int .i64 a1, .int .i64 a2] T)).cell? ⟨k, v.toNat, none⟩ = some (.int .i64 (sel [a0, a1, a2] v)) := by
  subst hk
  obtain ⟨i, rfl⟩ := Int.eq_ofNat_of_zero_le h0
  have : i = 0 ∨ i = 1 ∨ i = 2 := by omega
  rcases this with rfl | rfl | rfl <;> simp [sel]
theorem lit4 {v : Int} (h0 : 0 ≤ v) (h1 : v < 4) (W : World) (T : TypeId) (a0 a1 a2 a3 : Int) (k : Nat) (hk : W.heap.size = k) :
    (W.alloc (.cells #[.int .i64 a0, .int .i64 a1, .int .i64 a2, .int .i64 a3] T)).cell? ⟨k, v.toNat, none⟩ = some (.int .i64 (sel [a0, a1, a2, a3] v)) := by
  subst hk
  obtain ⟨i, rfl⟩ := Int.eq_ofNat_of_zero_le h0
  have : i = 0 ∨ i = 1 ∨ i = 2 ∨ i = 3 := by omega
  rcases this with rfl | rfl | rfl | rfl <;> simp [sel]
theorem lit5 {v : Int} (h0 : 0 ≤ v) (h1 : v < 5) (W : World) (T : TypeId) (a0 a1 a2 a3 a4 : Int) (k : Nat) (hk : W.heap.size = k) :
    (W.alloc (.cells #[.int .i64 a0, .int .i64 a1, .int .i64 a2, .int .i64 a3, .int .i64 a4] T)).cell? ⟨k, v.toNat, none⟩ = some (.int .i64 (sel [a0, a1, a2, a3, a4] v)) := by
  subst hk
  obtain ⟨i, rfl⟩ := Int.eq_ofNat_of_zero_le h0
  have : i = 0 ∨ i = 1 ∨ i = 2 ∨ i = 3 ∨ i = 4 := by omega
  rcases this with rfl | rfl | rfl | rfl | rfl <;> simp [sel]
theorem lit6 {v : Int} (h0 : 0 ≤ v) (h1 : v < 6) (W : World) (T : TypeId) (a0 a1 a2 a3 a4 a5 : Int) (k : Nat) (hk : W.heap.size = k) :
    (W.alloc (.cells #[.int .i64 a0, .int .i64 a1, .int .i64 a2, .int .i64 a3, .int .i64 a4, .int .i64 a5] T)).cell? ⟨k, v.toNat, none⟩ = some (.int .i64 (sel [a0, a1, a2, a3, a4, a5] v)) := by
  subst hk
  obtain ⟨i, rfl⟩ := Int.eq_ofNat_of_zero_le h0
  have : i = 0 ∨ i = 1 ∨ i = 2 ∨ i = 3 ∨ i = 4 ∨ i = 5 := by omega
  rcases this with rfl | rfl | rfl | rfl | rfl | rfl <;> simp [sel]
theorem lit7 {v : Int} (h0 : 0 ≤ v) (h1 : v < 7) (W : World) (T : TypeId) (a0 a1 a2 a3 a4 a5 a6 : Int) (k : Nat) (hk : W.heap.size = k) :
    (W.alloc (.cells #[.int .i64 a0, .int .i64 a1, .int .i64 a2, .int .i64 a3, .int .i64 a4, .int .i64 a5, .int .i64 a6] T)).cell? ⟨k, v.toNat, none⟩ = some (.int .i64 (sel [a0, a1, a2, a3, a4, a5, a6] v)) := by
  subst hk
  obtain ⟨i, rfl⟩ := Int.eq_ofNat_of_zero_le h0
  have : i = 0 ∨ i = 1 ∨ i = 2 ∨ i = 3 ∨ i = 4 ∨ i = 5 ∨ i = 6 := by omega
  rcases this with rfl | rfl | rfl | rfl | rfl | rfl | rfl <;> simp [sel]
theorem lit8 {v : Int} (h0 : 0 ≤ v) (h1 : v < 8) (W : World) (T : TypeId) (a0 a1 a2 a3 a4 a5 a6 a7 : Int) (k : Nat) (hk : W.heap.size = k) :
    (W.alloc (.cells #[.int .i64 a0, .int .i64 a1, .int .i64 a2, .int .i64 a3, .int .i64 a4, .int .i64 a5, .int .i64 a6, .int .i64 a7] T)).cell? ⟨k, v.toNat, none⟩ = some (.int .i64 (sel [a0, a1, a2, a3, a4, a5, a6, a7] v)) := by
  subst hk
  obtain ⟨i, rfl⟩ := Int.eq_ofNat_of_zero_le h0
  have : i = 0 ∨ i = 1 ∨ i = 2 ∨ i = 3 ∨ i = 4 ∨ i = 5 ∨ i = 6 ∨ i = 7 := by omega
  rcases this with rfl | rfl | rfl | rfl | rfl | rfl | rfl | rfl <;> simp [sel]
theorem lit9 {v : Int} (h0 : 0 ≤ v) (h1 : v < 9) (W : World) (T : TypeId) (a0 a1 a2 a3 a4 a5 a6 a7 a8 : Int) (k : Nat) (hk : W.heap.size = k) :
    (W.alloc (.cells #[.int .i64 a0, .int .i64 a1, .int .i64 a2, .int .i64 a3, .int .i64 a4, .int .i64 a5, .int .i64 a6, .int .i64 a7, .int .i64 a8] T)).cell? ⟨k, v.toNat, none⟩ = some (.int .i64 (sel [a0, a1, a2, a3, a4, a5, a6, a7, a8] v)) := by
  subst hk
  obtain ⟨i, rfl⟩ := Int.eq_ofNat_of_zero_le h0
  have : i = 0 ∨ i = 1 ∨ i = 2 ∨ i = 3 ∨ i = 4 ∨ i = 5 ∨ i = 6 ∨ i = 7 ∨ i = 8 := by omega
  rcases this with rfl | rfl | rfl | rfl | rfl | rfl | rfl | rfl | rfl <;> simp [sel]

theorem litg2 {v : Int} (h0 : 0 ≤ v) (h1 : v < 2) (a0 a1 : Int) (h : v.toNat < ([.int .i64 a0, .int .i64 a1] : List Value).length) :
    ([.int .i64 a0, .int .i64 a1] : List Value)[v.toNat]'h = .int .i64 (sel [a0, a1] v) := by
  obtain ⟨i, rfl⟩ := Int.eq_ofNat_of_zero_le h0
  have : i = 0 ∨ i = 1 := by omega
  rcases this with rfl | rfl <;> simp [sel]
theorem litg3 {v : Int} (h0 : 0 ≤ v) (h1 : v < 3) (a0 a1 a2 : Int) (h : v.toNat < ([.int .i64 a0, .int .i64 a1, .int .i64 a2] : List Value).length) :
    ([.int .i64 a0, .int .i64 a1, .int .i64 a2] : List Value)[v.toNat]'h = .int .i64 (sel [a0, a1, a2] v) := by
  obtain ⟨i, rfl⟩ := Int.eq_ofNat_of_zero_le h0
  have : i = 0 ∨ i = 1 ∨ i = 2 := by omega
  rcases this with rfl | rfl | rfl <;> simp [sel]
theorem litg4 {v : Int} (h0 : 0 ≤ v) (h1 : v < 4) (a0 a1 a2 a3 : Int) (h : v.toNat < ([.int .i64 a0, .int .i64 a1, .int .i64 a2, .int .i64 a3] : List Value).length) :
    ([.int .i64 a0, .int .i64 a1, .int .i64 a2, .int .i64 a3] : List Value)[v.toNat]'h = .int .i64 (sel [a0, a1, a2, a3] v) := by
  obtain ⟨i, rfl⟩ := Int.eq_ofNat_of_zero_le h0
  have : i = 0 ∨ i = 1 ∨ i = 2 ∨ i = 3 := by omega
  rcases this with rfl | rfl | rfl | rfl <;> simp [sel]
theorem litg5 {v : Int} (h0 : 0 ≤ v) (h1 : v < 5) (a0 a1 a2 a3 a4 : Int) (h : v.toNat < ([.int .i64 a0, .int .i64 a1, .int .i64 a2, .int .i64 a3, .int .i64 a4] : List Value).length) :
    ([.int .i64 a0, .int .i64 a1, .int .i64 a2, .int .i64 a3, .int .i64 a4] : List Value)[v.toNat]'h = .int .i64 (sel [a0, a1, a2, a3, a4] v) := by
  obtain ⟨i, rfl⟩ := Int.eq_ofNat_of_zero_le h0
  have : i = 0 ∨ i = 1 ∨ i = 2 ∨ i = 3 ∨ i = 4 := by omega
  rcases this with rfl | rfl | rfl | rfl | rfl <;> simp [sel]
theorem litg6 {v : Int} (h0 : 0 ≤ v) (h1 : v < 6) (a0 a1 a2 a3 a4 a5 : Int) (h : v.toNat < ([.int .i64 a0, .int .i64 a1, .int .i64 a2, .int .i64 a3, .int .i64 a4, .int .i64 a5] : List Value).length) :
    ([.int .i64 a0, .int .i64 a1, .int .i64 a2, .int .i64 a3, .int .i64 a4, .int .i64 a5] : List Value)[v.toNat]'h = .int .i64 (sel [a0, a1, a2, a3, a4, a5] v) := by
  obtain ⟨i, rfl⟩ := Int.eq_ofNat_of_zero_le h0
  have : i = 0 ∨ i = 1 ∨ i = 2 ∨ i = 3 ∨ i = 4 ∨ i = 5 := by omega
  rcases this with rfl | rfl | rfl | rfl | rfl | rfl <;> simp [sel]
theorem litg7 {v : Int} (h0 : 0 ≤ v) (h1 : v < 7) (a0 a1 a2 a3 a4 a5 a6 : Int) (h : v.toNat < ([.int .i64 a0, .int .i64 a1, .int .i64 a2, .int .i64 a3, .int .i64 a4, .int .i64 a5, .int .i64 a6] : List Value).length) :
    ([.int .i64 a0, .int .i64 a1, .int .i64 a2, .int .i64 a3, .int .i64 a4, .int .i64 a5, .int .i64 a6] : List Value)[v.toNat]'h = .int .i64 (sel [a0, a1, a2, a3, a4, a5, a6] v) := by
  obtain ⟨i, rfl⟩ := Int.eq_ofNat_of_zero_le h0
  have : i = 0 ∨ i = 1 ∨ i = 2 ∨ i = 3 ∨ i = 4 ∨ i = 5 ∨ i = 6 := by omega
  rcases this with rfl | rfl | rfl | rfl | rfl | rfl | rfl <;> simp [sel]
theorem litg8 {v : Int} (h0 : 0 ≤ v) (h1 : v < 8) (a0 a1 a2 a3 a4 a5 a6 a7 : Int) (h : v.toNat < ([.int .i64 a0, .int .i64 a1, .int .i64 a2, .int .i64 a3, .int .i64 a4, .int .i64 a5, .int .i64 a6, .int .i64 a7] : List Value).length) :
    ([.int .i64 a0, .int .i64 a1, .int .i64 a2, .int .i64 a3, .int .i64 a4, .int .i64 a5, .int .i64 a6, .int .i64 a7] : List Value)[v.toNat]'h = .int .i64 (sel [a0, a1, a2, a3, a4, a5, a6, a7] v) := by
  obtain ⟨i, rfl⟩ := Int.eq_ofNat_of_zero_le h0
  have : i = 0 ∨ i = 1 ∨ i = 2 ∨ i = 3 ∨ i = 4 ∨ i = 5 ∨ i = 6 ∨ i = 7 := by omega
  rcases this with rfl | rfl | rfl | rfl | rfl | rfl | rfl | rfl <;> simp [sel]
theorem litg9 {v : Int} (h0 : 0 ≤ v) (h1 : v < 9) (a0 a1 a2 a3 a4 a5 a6 a7 a8 : Int) (h : v.toNat < ([.int .i64 a0, .int .i64 a1, .int .i64 a2, .int .i64 a3, .int .i64 a4, .int .i64 a5, .int .i64 a6, .int .i64 a7, .int .i64 a8] : List Value).length) :
    ([.int .i64 a0, .int .i64 a1, .int .i64 a2, .int .i64 a3, .int .i64 a4, .int .i64 a5, .int .i64 a6, .int .i64 a7, .int .i64 a8] : List Value)[v.toNat]'h = .int .i64 (sel [a0, a1, a2, a3, a4, a5, a6, a7, a8] v) := by
  obtain ⟨i, rfl⟩ := Int.eq_ofNat_of_zero_le h0
  have : i = 0 ∨ i = 1 ∨ i = 2 ∨ i = 3 ∨ i = 4 ∨ i = 5 ∨ i = 6 ∨ i = 7 ∨ i = 8 := by omega
  rcases this with rfl | rfl | rfl | rfl | rfl | rfl | rfl | rfl | rfl <;> simp [sel]

theorem Blk.stp {r T : Nat} {w w' : World} {b : Int} {g : Nat} {t : TypeId} {cs : Array Value} (hs : Stp r T w b w') (h : Blk w g t cs) (hne : g ≠ r) : Blk w' g t cs :=
  (hs.grown.block g h.lt (fun e => hne (by injection e))).trans h
theorem Blk.new2 (w : World) (o : Obj) (t : TypeId) (cs : Array Value) : Blk ((w.alloc o).alloc (.cells cs t)) (w.heap.size + 1) t cs := by
  have := Blk.new (w.alloc o) t cs
  rwa [show (w.alloc o).heap.size = w.heap.size + 1 by simp] at this
theorem Blk.new3 (w : World) (o o' : Obj) (t : TypeId) (cs : Array Value) : Blk (((w.alloc o).alloc o').alloc (.cells cs t)) (w.heap.size + 1 + 1) t cs := by
  have := Blk.new ((w.alloc o).alloc o') t cs
  rwa [show ((w.alloc o).alloc o').heap.size = w.heap.size + 1 + 1 by simp] at this
/-- The cells of a block that is a literal. -/
theorem Blk.c0 {w : World} {g : Nat} {t : TypeId} { a : Value} {l : List Value} (h : Blk w g t (List.toArray (a :: l))) : w.cell? ⟨g, 0, none⟩ = some a := (h.cell 0).trans rfl
theorem Blk.c1 {w : World} {g : Nat} {t : TypeId} {x0 a : Value} {l : List Value} (h : Blk w g t (List.toArray (x0 :: a :: l))) : w.cell? ⟨g, 1, none⟩ = some a := (h.cell 1).trans rfl
theorem Blk.c2 {w : World} {g : Nat} {t : TypeId} {x0 x1 a : Value} {l : List Value} (h : Blk w g t (List.toArray (x0 :: x1 :: a :: l))) : w.cell? ⟨g, 2, none⟩ = some a := (h.cell 2).trans rfl
theorem Blk.c3 {w : World} {g : Nat} {t : TypeId} {x0 x1 x2 a : Value} {l : List Value} (h : Blk w g t (List.toArray (x0 :: x1 :: x2 :: a :: l))) : w.cell? ⟨g, 3, none⟩ = some a := (h.cell 3).trans rfl
theorem Blk.c4 {w : World} {g : Nat} {t : TypeId} {x0 x1 x2 x3 a : Value} {l : List Value} (h : Blk w g t (List.toArray (x0 :: x1 :: x2 :: x3 :: a :: l))) : w.cell? ⟨g, 4, none⟩ = some a := (h.cell 4).trans rfl
theorem Blk.c5 {w : World} {g : Nat} {t : TypeId} {x0 x1 x2 x3 x4 a : Value} {l : List Value} (h : Blk w g t (List.toArray (x0 :: x1 :: x2 :: x3 :: x4 :: a :: l))) : w.cell? ⟨g, 5, none⟩ = some a := (h.cell 5).trans rfl
theorem Blk.c6 {w : World} {g : Nat} {t : TypeId} {x0 x1 x2 x3 x4 x5 a : Value} {l : List Value} (h : Blk w g t (List.toArray (x0 :: x1 :: x2 :: x3 :: x4 :: x5 :: a :: l))) : w.cell? ⟨g, 6, none⟩ = some a := (h.cell 6).trans rfl
theorem Blk.c7 {w : World} {g : Nat} {t : TypeId} {x0 x1 x2 x3 x4 x5 x6 a : Value} {l : List Value} (h : Blk w g t (List.toArray (x0 :: x1 :: x2 :: x3 :: x4 :: x5 :: x6 :: a :: l))) : w.cell? ⟨g, 7, none⟩ = some a := (h.cell 7).trans rfl
theorem Blk.belowOf {w0 w w' : World} {g : Nat} {t : TypeId} {cs0 cs : Array Value} (_ : Blk w0 g t cs0) (hb : Below w.heap.size w w') (h : Blk w g t cs) : Blk w' g t cs := h.below hb
/-- The same, the block's number and type taken from an elder fact. -/
theorem Blk.stpOf {r T : Nat} {w0 w w' : World} {b : Int} {g : Nat} {t : TypeId} {cs0 cs : Array Value} (_ : Blk w0 g t cs0) (hs : Stp r T w b w') (h : Blk w g t cs) (hne : g ≠ r) : Blk w' g t cs := Blk.stp hs h hne
theorem litq2 {v : Int} (h0 : 0 ≤ v) (h1 : v < 2) (a0 a1 : Int) : (#[.int .i64 a0, .int .i64 a1] : Array Value)[v.toNat]? = some (.int .i64 (sel [a0, a1] v)) := by
  obtain ⟨i, rfl⟩ := Int.eq_ofNat_of_zero_le h0
  have : i = 0 ∨ i = 1 := by omega
  rcases this with rfl | rfl <;> simp [sel]
theorem litq3 {v : Int} (h0 : 0 ≤ v) (h1 : v < 3) (a0 a1 a2 : Int) : (#[.int .i64 a0, .int .i64 a1, .int .i64 a2] : Array Value)[v.toNat]? = some (.int .i64 (sel [a0, a1, a2] v)) := by
  obtain ⟨i, rfl⟩ := Int.eq_ofNat_of_zero_le h0
  have : i = 0 ∨ i = 1 ∨ i = 2 := by omega
  rcases this with rfl | rfl | rfl <;> simp [sel]
theorem litq4 {v : Int} (h0 : 0 ≤ v) (h1 : v < 4) (a0 a1 a2 a3 : Int) : (#[.int .i64 a0, .int .i64 a1, .int .i64 a2, .int .i64 a3] : Array Value)[v.toNat]? = some (.int .i64 (sel [a0, a1, a2, a3] v)) := by
  obtain ⟨i, rfl⟩ := Int.eq_ofNat_of_zero_le h0
  have : i = 0 ∨ i = 1 ∨ i = 2 ∨ i = 3 := by omega
  rcases this with rfl | rfl | rfl | rfl <;> simp [sel]
theorem litq5 {v : Int} (h0 : 0 ≤ v) (h1 : v < 5) (a0 a1 a2 a3 a4 : Int) : (#[.int .i64 a0, .int .i64 a1, .int .i64 a2, .int .i64 a3, .int .i64 a4] : Array Value)[v.toNat]? = some (.int .i64 (sel [a0, a1, a2, a3, a4] v)) := by
  obtain ⟨i, rfl⟩ := Int.eq_ofNat_of_zero_le h0
  have : i = 0 ∨ i = 1 ∨ i = 2 ∨ i = 3 ∨ i = 4 := by omega
  rcases this with rfl | rfl | rfl | rfl | rfl <;> simp [sel]
theorem litq6 {v : Int} (h0 : 0 ≤ v) (h1 : v < 6) (a0 a1 a2 a3 a4 a5 : Int) : (#[.int .i64 a0, .int .i64 a1, .int .i64 a2, .int .i64 a3, .int .i64 a4, .int .i64 a5] : Array Value)[v.toNat]? = some (.int .i64 (sel [a0, a1, a2, a3, a4, a5] v)) := by
  obtain ⟨i, rfl⟩ := Int.eq_ofNat_of_zero_le h0
  have : i = 0 ∨ i = 1 ∨ i = 2 ∨ i = 3 ∨ i = 4 ∨ i = 5 := by omega
  rcases this with rfl | rfl | rfl | rfl | rfl | rfl <;> simp [sel]
theorem litq7 {v : Int} (h0 : 0 ≤ v) (h1 : v < 7) (a0 a1 a2 a3 a4 a5 a6 : Int) : (#[.int .i64 a0, .int .i64 a1, .int .i64 a2, .int .i64 a3, .int .i64 a4, .int .i64 a5, .int .i64 a6] : Array Value)[v.toNat]? = some (.int .i64 (sel [a0, a1, a2, a3, a4, a5, a6] v)) := by
  obtain ⟨i, rfl⟩ := Int.eq_ofNat_of_zero_le h0
  have : i = 0 ∨ i = 1 ∨ i = 2 ∨ i = 3 ∨ i = 4 ∨ i = 5 ∨ i = 6 := by omega
  rcases this with rfl | rfl | rfl | rfl | rfl | rfl | rfl <;> simp [sel]
theorem litq8 {v : Int} (h0 : 0 ≤ v) (h1 : v < 8) (a0 a1 a2 a3 a4 a5 a6 a7 : Int) : (#[.int .i64 a0, .int .i64 a1, .int .i64 a2, .int .i64 a3, .int .i64 a4, .int .i64 a5, .int .i64 a6, .int .i64 a7] : Array Value)[v.toNat]? = some (.int .i64 (sel [a0, a1, a2, a3, a4, a5, a6, a7] v)) := by
  obtain ⟨i, rfl⟩ := Int.eq_ofNat_of_zero_le h0
  have : i = 0 ∨ i = 1 ∨ i = 2 ∨ i = 3 ∨ i = 4 ∨ i = 5 ∨ i = 6 ∨ i = 7 := by omega
  rcases this with rfl | rfl | rfl | rfl | rfl | rfl | rfl | rfl <;> simp [sel]
theorem litq9 {v : Int} (h0 : 0 ≤ v) (h1 : v < 9) (a0 a1 a2 a3 a4 a5 a6 a7 a8 : Int) : (#[.int .i64 a0, .int .i64 a1, .int .i64 a2, .int .i64 a3, .int .i64 a4, .int .i64 a5, .int .i64 a6, .int .i64 a7, .int .i64 a8] : Array Value)[v.toNat]? = some (.int .i64 (sel [a0, a1, a2, a3, a4, a5, a6, a7, a8] v)) := by
  obtain ⟨i, rfl⟩ := Int.eq_ofNat_of_zero_le h0
  have : i = 0 ∨ i = 1 ∨ i = 2 ∨ i = 3 ∨ i = 4 ∨ i = 5 ∨ i = 6 ∨ i = 7 ∨ i = 8 := by omega
  rcases this with rfl | rfl | rfl | rfl | rfl | rfl | rfl | rfl | rfl <;> simp [sel]

theorem litq {cs : List Int} {v : Int} (h0 : 0 ≤ v) (h1 : v < cs.length) : ((cs.flatMap eI).toArray)[v.toNat]? = some (.int .i64 (sel cs v)) := by
  obtain ⟨i, rfl⟩ := Int.eq_ofNat_of_zero_le h0
  have hi : i < cs.length := by omega
  have h2 := flatMap_get (enc := eI) (k := 1) (fun _ => rfl) cs i cs[i] 0 _ (List.getElem?_eq_getElem hi) rfl
  simp only [Nat.mul_one, Nat.add_zero] at h2
  simp only [Int.toNat_natCast, sel, List.getElem?_toArray, h2, List.getElem?_eq_getElem hi]
  rfl
/-- The bounds of a selected number, where all are bounded. -/
theorem sel_bd {lo hi : Int} (xs : List Int) (h : ∀ x ∈ xs, lo ≤ x ∧ x < hi) (hn : 0 < xs.length) (v : Int) (h0 : 0 ≤ v) (h1 : v < xs.length) : lo ≤ sel xs v ∧ sel xs v < hi := by
  obtain ⟨i, rfl⟩ := Int.eq_ofNat_of_zero_le h0
  have hi' : i < xs.length := by omega
  unfold sel
  rw [Int.toNat_natCast, List.getElem?_eq_getElem hi']
  exact h _ (List.getElem_mem hi')
end Go.Proofs.YtckgdlgdipfgmaaGreat
