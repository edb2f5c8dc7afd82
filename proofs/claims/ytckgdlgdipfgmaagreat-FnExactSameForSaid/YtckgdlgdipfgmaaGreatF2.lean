/- Append onto a list of the call's own; words for such lists. A made block filled element by element. Windows: in, valid, has, WindowsValid, WindowAt, alive. Partitions in memory: a slice of windows and a number. A region that draws its order, whose own operations only read and whose callees write nothing that was there: one walk in the text's order. The class of worlds: those in which nothing below the heap's size has turned. Lists whose elements hold slices: their memory, what they say. The slice types that this program appends to. slices.IndexFunc, slices.ContainsFunc at windows. spec.l1In. WindowAt of impl. Windows of the reference: l1Window, WindowsValid, WindowAt. Lists read element by element. -/
import Derived.Test.YtckgdlgdipfgmaaGreatF1
import Derived.Laws.OwnMore
import Derived.Laws.AppendOwnNone
import Derived.OwnWalk
import Derived.Laws.MakeOwn
import Derived.Test.YtckgdlgdipfgmaaGreatChecked
import Derived.Deep.Quiet
import Derived.BigQuiet
import Derived.Shelf.Abstract
import Derived.Deep.QuietTactic

namespace Go.Proofs.YtckgdlgdipfgmaaGreat
set_option linter.unusedVariables false
set_option linter.unusedSimpArgs false
open Go.RowKit

/-- A slice value of the call's own, from block base on, that reads as the list xs. -/
def Own {α : Type} (w : World) (base E k : Nat) (enc : α → List Value) (v : Value) (xs : List α) : Prop := w.ownsRow base E k v xs.length (xs.flatMap enc)

/-- What is asked of a slice type T over elements of type E. -/
structure AppT (P : Program) (T E k bytes : Nat) : Prop where
  under : P.underlying T = some (.slice E)
  info : ∃ i z, P.info? E = some i ∧ i.zero = some z ∧ i.size = k ∧ i.bytes = bytes ∧ z.cells.size = k
  pos : 0 < k
  small : bytes ≤ 1000
theorem AppT.mk' {P : Program} {T E k bytes : Nat} {z : Value} (h1 : P.underlying T = some (.slice E)) (h2 : (P.info? E).map (fun i => (i.zero, i.size, i.bytes)) = some (some z, k, bytes)) (h3 : z.cells.size = k) (h4 : 0 < k) (h5 : bytes ≤ 1000) : AppT P T E k bytes := by
  obtain ⟨i, h⟩ := info_parts h2
  exact ⟨h1, ⟨i, z, h.1, h.2.1, h.2.2.1, h.2.2.2, h3⟩, h4, h5⟩

/-- What is asked of an encoding. -/
structure Enc {α : Type} (enc : α → List Value) (k : Nat) : Prop where
  len : ∀ x, (enc x).length = k
  one : ∀ x, ∀ u ∈ enc x, u.oneCell' = true

theorem encI : Enc eI 1 := ⟨fun _ => rfl, fun x u h => by simp [eI] at h; subst h; rfl⟩
theorem encS : Enc eS 2 := ⟨fun _ => rfl, fun x u h => by simp [eS] at h; rcases h with rfl | rfl <;> rfl⟩
theorem encO : Enc eO 3 := ⟨fun _ => rfl, fun x u h => by simp [eO] at h; rcases h with rfl | rfl | rfl <;> rfl⟩
theorem encC : Enc eC 4 := ⟨fun _ => rfl, fun x u h => by simp [eC] at h; rcases h with rfl | rfl | rfl | rfl <;> rfl⟩
theorem encH : Enc eH 2 := ⟨fun _ => rfl, fun x u h => by simp [eH] at h; rcases h with rfl | rfl <;> rfl⟩

section
variable {α : Type} {w w' : World} {base E k T : Nat} {enc : α → List Value} {v : Value} {xs : List α}
theorem Own.nil : Own w base E k enc (.slice none 0 0) ([] : List α) := World.ownsRow_nil _ _ _ _
theorem Own.lt (h : Own w base E k enc v xs) : ∀ g, v.ownBlock = some g → base ≤ g ∧ g < w.heap.size := World.ownsRow.lt h
theorem Own.kept {row : Option Nat} (h : Own w base E k enc v xs) (hg : w.grownBy w' row) (hne : v.ownBlock = none ∨ v.ownBlock ≠ row) : Own w' base E k enc v xs := World.ownsRow.kept h hg hne
theorem Own.alloc (h : Own w base E k enc v xs) (o : Obj) : Own (w.alloc o) base E k enc v xs := World.ownsRow.alloc h o
theorem Own.drew (h : Own w base E k enc v xs) : Own w.drew base E k enc v xs := h
theorem Own.drewN (h : Own w base E k enc v xs) (n : Nat) : Own (w.drewN n) base E k enc v xs := h
theorem Own.stp {r : Nat} {b : Int} (h : Own w base E k enc v xs) (hs : Stp r T w b w') (hr : r < base) : Own w' base E k enc v xs :=
  h.kept hs.grown (.inr fun e => by have := h.lt r e; omega)
theorem Own.stpOf {w0 : World} {r : Nat} {b : Int} (_ : Own w0 base E k enc v xs) (hs : Stp r T w b w') (h : Own w base E k enc v xs) (hr : r < base) : Own w' base E k enc v xs := h.stp hs hr
theorem Own.below (h : Own w base E k enc v xs) (hb : Below w.heap.size w w') : Own w' base E k enc v xs := by
  refine h.kept (row := none) ⟨hb.os, hb.tape, hb.output, hb.size, fun i hi _ => hb.block i hi⟩ ?_
  cases hv : v.ownBlock <;> simp
theorem Own.of_blk {g : Nat} (h : Blk w g E (xs.flatMap enc).toArray) (hb : base ≤ g) (hk : Enc enc k) (hm : xs.length ≤ maxLen) : Own w base E k enc (.slice (some ⟨g, 0, none⟩) xs.length xs.length) xs :=
  ⟨flatMap_len hk.len xs, .inr ⟨g, xs.length, _, rfl, hb, h, Nat.le_refl _, hm, by simp [flatMap_len hk.len xs], by rw [← flatMap_len hk.len xs]; exact List.take_of_length_le (Nat.le_refl _)⟩⟩
/-- Its slice value. -/
theorem Own.sl (hk : Enc enc k) (h : Own w base E k enc v xs) : ∃ A c, v = .slice A xs.length c ∧ ((A = none → c = 0) ∧ ∀ ad, A = some ad → ad.spot = none) ∧ Sl w k enc A xs.length c xs ∧ ∀ b o, A = some ⟨b, o, none⟩ → base ≤ b ∧ b < w.heap.size := by
  obtain ⟨A, c, hv, hs, hA⟩ := Sl.of_own hk.len h rfl
  refine ⟨A, c, hv, ⟨fun e => ?_, fun ad e => ?_⟩, hs, hA⟩
  all_goals rcases h.2 with ⟨h1, _⟩ | ⟨g, cap, cur, h1, _⟩
  · rw [h1] at hv; injection hv with _ _ h3; exact h3.symm
  · rw [h1, e] at hv; injection hv with h2 _; cases h2
  · rw [h1, e] at hv; injection hv with h2 _; cases h2
  · rw [h1, e] at hv; injection hv with h2 _; injection h2 with h2; rw [← h2]
theorem Sl.of_blk {g : Nat} (h : Blk w g E (xs.flatMap enc).toArray) (hk : Enc enc k) (hm : xs.length ≤ 9223372036854775807) : Sl w k enc (some ⟨g, 0, none⟩) xs.length xs.length xs :=
  ⟨rfl, Nat.le_refl _, hm, fun _ => ⟨g, 0, rfl, h.lt, fun j x hj i u hu => by
    have h1 := flatMap_get hk.len xs j x i u hj hu
    rw [Nat.zero_add, h.cell]
    simpa using h1⟩⟩
end

/-- append(out, src...): out a list of the call's own, src any list that can be read. -/
theorem app_wp {P : Program} {w : World} {o : Oper} {a : Act} {K : Act → World → Prop} {Q : Exit → Act → World → Prop} (s x : Operand) {T E k bytes : Nat} (hT : AppT P T E k bytes)
    (ho : o.op = .call { callee := .builtin .append, args := #[s, x], argTypes := #[T, T] }) {α : Type} {enc : α → List Value} (hk : Enc enc k) (base : Nat) (v : Value) (xs : List α) (hs : a.eval s = v) (hown : Own w base E k enc v xs)
    (A : Option Addr) (m c : Nat) (ys : List α) (hx : a.eval x = .slice A m c) (hA : A = none → c = 0) (hsrc : Sl w k enc A m c ys)
    (hlen : xs.length + m ≤ 100000000) (hbase : base ≤ w.heap.size)
    (h : ∀ v' w', Own w' base E k enc v' (xs ++ ys) → w.grownBy w' v.ownBlock → K (a.put o.dst v') w') : o.wp P a w K Q := by
  obtain ⟨i, z, hi, hz, hsz, hby, hzs⟩ := hT.info
  have hyl := hsrc.len
  have hbytes : (xs.length + m) * bytes ≤ 140737488355328 := Nat.le_trans (Nat.mul_le_mul hlen hT.small) (by decide)
  cases A with
  | none =>
    have hc : c = 0 := hA rfl
    have hm : m = 0 := by have := hsrc.le; omega
    subst hc hm
    obtain rfl : ys = [] := List.eq_nil_of_length_eq_zero hyl
    have hrun := run_append_owned_none (P := P) (w := w) base T o.type E i k hT.under hi v xs.length _ hown
    unfold Oper.wp
    simp [execOp, ho, resolve, invoke, builtin, hs, hx, hrun, Result.andThen]
    exact h v w (by simpa using hown) (World.grownBy.refl _ _)
  | some ad =>
    refine wp_append_own _ s x T ho base E i z k bytes hT.under hi hz hsz hby hzs hT.pos v xs.length _ hs hown ad m c (ys.flatMap enc) hx (by rw [flatMap_len hk.len, hyl]) ?_ ?_ (by unfold maxLen; omega) hbytes hbase ?_
    · intro j u hu
      by_cases hm : 0 < m
      · obtain ⟨b, off, e, hb, hc⟩ := hsrc.cells hm
        injection e with e
        subst e
        have hj : j < (ys.flatMap enc).length := (List.getElem?_eq_some_iff.1 hu).1
        rw [flatMap_len hk.len] at hj
        have hq : j / k < ys.length := (Nat.div_lt_iff_lt_mul hT.pos).2 hj
        have hr := Nat.mod_lt j hT.pos
        have hd : j / k * k + j % k = j := Nat.div_add_mod' j k
        have hy : ys[j / k]? = some ys[j / k] := List.getElem?_eq_getElem hq
        have he : (enc ys[j / k])[j % k]? = some ((enc ys[j / k])[j % k]'(by rw [hk.len]; exact hr)) := List.getElem?_eq_getElem _
        have h1 := flatMap_get hk.len ys _ _ _ _ hy he
        rw [hd, hu] at h1
        injection h1 with h1
        subst h1
        have h2 := hc _ _ hy _ _ he
        rw [show (⟨b, off, none⟩ : Addr).add j = ⟨b, off + j / k * k + j % k, none⟩ by rw [Addr.add_lit]; congr 1; omega]
        exact h2
      · obtain rfl : ys = [] := List.eq_nil_of_length_eq_zero (by omega)
        simp at hu
    · intro u hu
      obtain ⟨y, _, hy⟩ := List.mem_flatMap.1 hu
      exact hk.one y u hy
    · intro v' w' hown' hg _
      refine h v' w' ?_ hg
      unfold Own
      rw [List.flatMap_append, List.length_append, hyl]
      exact hown'
theorem app_own {P : Program} {w : World} {ops : Array Oper} {rest : List Oper} {o : Oper} {a : Act} {Q : Exit → Act → World → Prop} (hgd : Region.wanted o (yielded ops a.tmps) = true) (s x : Operand) {T E k bytes : Nat} (hT : AppT P T E k bytes)
    (ho : o.op = .call { callee := .builtin .append, args := #[s, x], argTypes := #[T, T] }) {α : Type} {enc : α → List Value} (hk : Enc enc k) (base : Nat) (v : Value) (xs : List α) (hs : a.eval s = v) (hown : Own w base E k enc v xs)
    (A : Option Addr) (m c : Nat) (ys : List α) (hx : a.eval x = .slice A m c) (hA : A = none → c = 0) (hsrc : Sl w k enc A m c ys)
    (hlen : xs.length + m ≤ 100000000) (hbase : base ≤ w.heap.size)
    (h : ∀ v' w', Own w' base E k enc v' (xs ++ ys) → w.grownBy w' v.ownBlock → wpList P ops Q rest (a.put o.dst v') w') : wpList P ops Q (o :: rest) a w := by
  refine wpList_step fun K hK => ?_
  simp only [hgd, if_true]
  exact app_wp s x hT ho hk base v xs hs hown A m c ys hx hA hsrc hlen hbase fun v' w' h1 h2 => hK _ _ (h v' w' h1 h2)
/-- The same at a step of a region that draws its order. -/
theorem app_step {P : Program} {w : World} {ops : Array Oper} {o : Oper} {a : Act} {K : Act → World → Prop} {Q : Exit → Act → World → Prop} {E' : Prop} (hgd : Region.wanted o (yielded ops a.tmps) = true) (s x : Operand) {T E k bytes : Nat} (hT : AppT P T E k bytes)
    (ho : o.op = .call { callee := .builtin .append, args := #[s, x], argTypes := #[T, T] }) {α : Type} {enc : α → List Value} (hk : Enc enc k) (base : Nat) (v : Value) (xs : List α) (hs : a.eval s = v) (hown : Own w base E k enc v xs)
    (A : Option Addr) (m c : Nat) (ys : List α) (hx : a.eval x = .slice A m c) (hA : A = none → c = 0) (hsrc : Sl w k enc A m c ys)
    (hlen : xs.length + m ≤ 100000000) (hbase : base ≤ w.heap.size)
    (h : ∀ v' w', Own w' base E k enc v' (xs ++ ys) → w.grownBy w' v.ownBlock → K (a.put o.dst v') w') : if Region.wanted o (yielded ops a.tmps) = true then Oper.wp P o a w K Q else E' := by
  rw [if_pos hgd]
  exact app_wp s x hT ho hk base v xs hs hown A m c ys hx hA hsrc hlen hbase h

section
variable {α : Type} {w w' a : World} {base E k T : Nat} {enc : α → List Value} {v : Value} {xs : List α}
/-- What an append does to the rest. -/
theorem Stp.app {r : Nat} {b : Int} (hS : Stp r T a b w) (hown : Own w base E k enc v xs) (hg : w.grownBy w' v.ownBlock) (ha : a.heap.size ≤ base) (hr : r < base) : Stp r T a b w' :=
  ⟨grown_mono hS.grown hg (fun g e => .inr (by have := hown.lt g e; omega)), hS.rd.grown hg (fun g e => by have := hown.lt g e; omega)⟩
theorem belowApp {B : Nat} (hB : Below B a w) (hown : Own w base E k enc v xs) (hg : w.grownBy w' v.ownBlock) (hb : B ≤ base) (ha : B ≤ w.heap.size) : Below B a w' :=
  hB.trans ⟨hg.os, hg.tape, hg.output, hg.size, fun i hi => hg.block i (by omega) (fun e => by have := hown.lt i e.symm; omega)⟩
theorem Blk.app {g : Nat} {t : TypeId} {cs : Array Value} (h : Blk w g t cs) (hown : Own w base E k enc v xs) (hg : w.grownBy w' v.ownBlock) (hb : g < base) : Blk w' g t cs :=
  (hg.block g h.lt (fun e => by have := hown.lt g e.symm; omega)).trans h
theorem Sl.app {β : Type} {k' : Nat} {enc' : β → List Value} {A : Option Addr} {n c : Nat} {ys : List β} (h : Sl w k' enc' A n c ys) (hown : Own w base E k enc v xs) (hg : w.grownBy w' v.ownBlock) (hA : ∀ b o, A = some ⟨b, o, none⟩ → b < base) : Sl w' k' enc' A n c ys :=
  ⟨h.len, h.le, h.max, fun hn => by
    obtain ⟨b, o, rfl, hb, hc⟩ := h.cells hn
    refine ⟨b, o, rfl, Nat.lt_of_lt_of_le hb hg.size, fun j x hx i u hu => ?_⟩
    exact (World.cell?_of_block (w := w) (hg.block b hb (fun e => by have := hown.lt b e.symm; have := hA b o rfl; omega))).trans (hc j x hx i u hu)⟩
theorem Sl.stp {r : Nat} {b : Int} {A : Option Addr} {n c : Nat} (h : Sl w k enc A n c xs) (hs : Stp r T w b w') (hA : ∀ b o, A = some ⟨b, o, none⟩ → b ≠ r) : Sl w' k enc A n c xs :=
  ⟨h.len, h.le, h.max, fun hn => by
    obtain ⟨g, o, rfl, hb, hc⟩ := h.cells hn
    refine ⟨g, o, rfl, Nat.lt_of_lt_of_le hb hs.grown.size, fun j x hx i u hu => ?_⟩
    exact (World.cell?_of_block (w := w) (hs.grown.block g hb (fun e => hA g o rfl (by injection e)))).trans (hc j x hx i u hu)⟩
end
/-- Stores into a list of numbers of the call's own. -/
theorem flatMap_eI_set (xs : List Int) (j : Nat) (y : Int) : (xs.set j y).flatMap eI = (xs.flatMap eI).set j (.int .i64 y) := by
  induction xs generalizing j with
  | nil => simp
  | cons x xs ih =>
    cases j with
    | zero => simp [eI]
    | succ j => simp only [List.set_cons_succ, List.flatMap_cons, ih]; simp [eI]
theorem Own.stored {w : World} {base E g c n : Nat} {xs : List Int} (h : Own w base E 1 eI (.slice (some ⟨g, 0, none⟩) n c) xs) (j : Nat) (y : Int) :
    Own (w.setCell ⟨g, j, none⟩ (.int .i64 y)) base E 1 eI (.slice (some ⟨g, 0, none⟩) n c) (xs.set j y) ∧ w.grownBy (w.setCell ⟨g, j, none⟩ (.int .i64 y)) (some g) := by
  have hn : n = xs.length := by
    rcases h.2 with ⟨h1, _⟩ | ⟨g', cap, cur, h1, _⟩
    · cases h1
    · injection h1 with _ h2 _
  subst hn
  have := World.ownsRow.stored h j (.int .i64 y)
  unfold Own
  rw [flatMap_eI_set, List.length_set]
  exact this
theorem Own.frozenAt {α : Type} {w : World} {base E k g c n : Nat} {enc : α → List Value} {xs : List α} (h : Own w base E k enc (.slice (some ⟨g, 0, none⟩) n c) xs) (j : Nat) : w.frozen? ⟨g, j, none⟩ = false := by
  have hn : n = xs.length := by
    rcases h.2 with ⟨h1, _⟩ | ⟨g', cap, cur, h1, _⟩
    · cases h1
    · injection h1 with _ h2 _
  subst hn
  exact World.ownsRow.frozenAt h j
/-- A list of the call's own that is not empty. -/
theorem Own.form {α : Type} {w : World} {base E k : Nat} {enc : α → List Value} {v : Value} {xs : List α} (h : Own w base E k enc v xs) (hn : 0 < xs.length) : ∃ g c, v = .slice (some ⟨g, 0, none⟩) xs.length c ∧ base ≤ g ∧ g < w.heap.size ∧ xs.length ≤ c ∧ c ≤ 9223372036854775807 := by
  rcases h.2 with ⟨_, h1⟩ | ⟨g, cap, cur, rfl, hb, hg, hnc, hm, _⟩
  · omega
  · refine ⟨g, cap, rfl, hb, ?_, hnc, by simpa [maxLen] using hm⟩
    rcases Nat.lt_or_ge g w.heap.size with h1 | h1
    · exact h1
    · rw [Array.getElem?_eq_none h1] at hg; cases hg
theorem Own.cellI {w : World} {base E g c n : Nat} {xs : List Int} (h : Own w base E 1 eI (.slice (some ⟨g, 0, none⟩) n c) xs) {j : Nat} {y : Int} (hy : xs[j]? = some y) : w.cell? ⟨g, j, none⟩ = some (.int .i64 y) := by
  obtain ⟨A, c', hv, _, hs, _⟩ := h.sl encI
  injection hv with h1 h2 h3
  subst h1
  have hj : j < xs.length := (List.getElem?_eq_some_iff.1 hy).1
  obtain ⟨b, o, e, _, hc⟩ := hs.cells (by omega)
  injection e with e
  injection e with e1 e2
  subst e1 e2
  have := hc j y hy 0 _ rfl
  simpa using this

theorem Own.slI {α : Type} {w : World} {base E k g c n : Nat} {enc : α → List Value} {xs : List α} (hk : Enc enc k) (h : Own w base E k enc (.slice (some ⟨g, 0, none⟩) n c) xs) : Sl w k enc (some ⟨g, 0, none⟩) n c xs := by
  obtain ⟨A, c', hv, _, hs, _⟩ := h.sl hk
  injection hv with h1 h2 h3
  subst h1 h2 h3
  exact hs
theorem Sl.drewN {α : Type} {w : World} {k n c : Nat} {enc : α → List Value} {A : Option Addr} {xs : List α} (h : Sl w k enc A n c xs) (m : Nat) : Sl (w.drewN m) k enc A n c xs := h.keep (Nat.le_refl _) (fun _ _ _ => rfl)
/-- s[j:], as the walk spells it. -/
theorem Sl.from_ {α : Type} {w : World} {k n c : Nat} {enc : α → List Value} {A : Option Addr} {xs : List α} (h : Sl w k enc A n c xs) (j : Nat) (hj : j ≤ n) :
    Sl w k enc (if c = j then A else Option.map (fun x => x.add (j * k)) A) (n - j) (c - j) (xs.drop j) := by
  have hle := h.le
  have hmax := h.max
  refine h.drop_ j hj (by omega) (by omega) fun b o e hlt => ?_
  rw [if_neg (by omega), e]
  simp only [Option.map_some, Addr.add_lit]
theorem Sl.from1 {α : Type} {w : World} {n c : Nat} {enc : α → List Value} {A : Option Addr} {xs : List α} (h : Sl w 1 enc A n c xs) (j : Nat) (hj : j ≤ n) :
    Sl w 1 enc (if c = j then A else Option.map (fun x => x.add j) A) (n - j) (c - j) (xs.drop j) := by
  have := h.from_ j hj
  rwa [Nat.mul_one] at this
theorem belowDrewN {B : Nat} {a w : World} (h : Below B a w) (n : Nat) : Below B a (w.drewN n) := ⟨h.os, h.tape, h.output, h.size, h.block⟩
/-- What is asked of an element type's zero value. -/
structure ZeroT {α : Type} (P : Program) (T E k : Nat) (enc : α → List Value) (x0 : α) : Prop where
  under : P.underlying T = some (.slice E)
  info : ∃ i z, P.info? E = some i ∧ i.zero = some z ∧ i.size = k ∧ i.bytes ≤ 1000 ∧ z.cells.toList = enc x0
  pos : 0 < k
theorem ZeroT.mk' {α : Type} {P : Program} {T E k bytes : Nat} {enc : α → List Value} {x0 : α} {z : Value} (h1 : P.underlying T = some (.slice E)) (h2 : (P.info? E).map (fun i => (i.zero, i.size, i.bytes)) = some (some z, k, bytes)) (h3 : z.cells.toList = enc x0) (h4 : 0 < k) (h5 : bytes ≤ 1000) : ZeroT P T E k enc x0 := by
  obtain ⟨i, h⟩ := info_parts h2
  exact ⟨h1, ⟨i, z, h.1, h.2.1, h.2.2.1, by rw [h.2.2.2]; exact h5, h3⟩, h4⟩
theorem made_rep {α : Type} {k : Nat} {enc : α → List Value} {x0 : α} {z : Array Value} (hz : z.toList = enc x0) (hk : ∀ x, (enc x).length = k) (h0 : 0 < k) (n : Nat) : (madeCells z (n * k)).toList = (List.replicate n x0).flatMap enc := by
  have hzs : z.size = k := by rw [← Array.length_toList, hz, hk]
  apply List.ext_getElem?
  intro j
  by_cases hj : j < n * k
  · have hq : j / k < n := (Nat.div_lt_iff_lt_mul h0).2 hj
    have hr := Nat.mod_lt j h0
    have hd : j / k * k + j % k = j := Nat.div_add_mod' j k
    have he : (enc x0)[j % k]? = some ((enc x0)[j % k]'(by rw [hk]; exact hr)) := List.getElem?_eq_getElem _
    have h1 := flatMap_get hk (List.replicate n x0) (j / k) x0 (j % k) _ (by rw [List.getElem?_replicate, if_pos hq]) he
    rw [hd] at h1
    rw [h1]
    simp only [madeCells, Array.toList_map, Array.toList_range, List.getElem?_map, List.getElem?_range hj, Option.map_some, Option.some.injEq, hzs]
    have hlt : j % k < z.size := by omega
    rw [getElem!_pos z (j % k) hlt]
    have h2 : z.toList[j % k]? = some z[j % k] := by rw [Array.getElem?_toList]; exact Array.getElem?_eq_getElem hlt
    rw [hz, he] at h2
    injection h2 with h2
    exact h2.symm
  · rw [List.getElem?_eq_none (by rw [Array.length_toList, size_madeCells]; omega), List.getElem?_eq_none (by rw [flatMap_len hk, List.length_replicate]; omega)]
/-- make([]T, n). -/
theorem make_own {P : Program} {w : World} {ops : Array Oper} {rest : List Oper} {o : Oper} {a : Act} {Q : Exit → Act → World → Prop} (hgd : Region.wanted o (yielded ops a.tmps) = true) (l c : Operand) {α : Type} {enc : α → List Value} {x0 : α} {T E k : Nat} (hT : ZeroT P T E k enc x0)
    (hop : o.op = Op.makeSlice T l c) (hk : Enc enc k) (base : Nat) (L C : Int) (n : Nat) (hl : a.eval l = .int .i64 L) (hc : a.eval c = .int .i64 C) (hL : L = (n : Int)) (hC : C = (n : Int)) (hn : n ≤ 100000000) (hbase : base ≤ w.heap.size)
    (h : ∀ w', Own w' base E k enc (.slice (some ⟨w.heap.size, 0, none⟩) n n) (List.replicate n x0) → w.grownBy w' none → wpList P ops Q rest (a.put o.dst (.slice (some ⟨w.heap.size, 0, none⟩) n n)) w') : wpList P ops Q (o :: rest) a w := by
  obtain ⟨i, z, hi, hz, hsz, hby, hzs⟩ := hT.info
  obtain ⟨w', hrun, r1, r2⟩ := run_make_full (P := P) w base T E i z k hT.under hi hz hsz .i64 .i64 n (Nat.le_trans (Nat.mul_le_mul hby hn) (by decide)) (by unfold maxLen; omega) hbase
  subst hL hC
  refine wpList_step fun K hK => ?_
  simp only [hgd, if_true]
  unfold Oper.wp
  simp [execOp, hop, hl, hc, hrun, Result.andThen]
  refine hK _ _ (h w' ?_ r2)
  unfold Own
  rw [List.length_replicate, ← made_rep hzs hk.len hT.pos]
  exact r1
theorem Stp.none {r T : Nat} {a w w' : World} {b : Int} (hS : Stp r T a b w) (hg : w.grownBy w' Option.none) : Stp r T a b w' :=
  ⟨grown_mono hS.grown hg (fun g e => by cases e), hS.rd.grown hg (fun g e => by cases e)⟩
theorem below_of_grown {w w' : World} (hg : w.grownBy w' Option.none) : Below w.heap.size w w' := ⟨hg.os, hg.tape, hg.output, hg.size, fun i hi => hg.block i hi (fun e => by cases e)⟩
theorem flatMap_set {α : Type} {k : Nat} {enc : α → List Value} (hk : ∀ x, (enc x).length = k) : ∀ (xs : List α) (j i : Nat) (x y : α) (u : Value), xs[j]? = some x → i < k → enc y = (enc x).set i u → (xs.set j y).flatMap enc = (xs.flatMap enc).set (j * k + i) u
  | [], j, i, x, y, u, hx, _, _ => by simp at hx
  | a :: xs, 0, i, x, y, u, hx, hi, hy => by
    have : a = x := by simpa using hx
    subst this
    simp only [List.set_cons_zero, List.flatMap_cons, Nat.zero_mul, Nat.zero_add, hy]
    rw [List.set_append_left _ _ (by rw [hk]; exact hi)]
  | a :: xs, j + 1, i, x, y, u, hx, hi, hy => by
    have ih := flatMap_set hk xs j i x y u (by simpa using hx) hi hy
    simp only [List.set_cons_succ, List.flatMap_cons, ih]
    rw [List.set_append_right _ _ (by rw [hk a, Nat.add_mul]; omega), hk a, show (j + 1) * k + i - k = j * k + i by rw [Nat.add_mul]; omega]
/-- A store into a field of an element of a list of the call's own. -/
theorem Own.storedF {α : Type} {w : World} {base E k g c n : Nat} {enc : α → List Value} {xs : List α} (hk : Enc enc k) (h : Own w base E k enc (.slice (some ⟨g, 0, none⟩) n c) xs) (off j i : Nat) (x y : α) (u : Value) (hx : xs[j]? = some x) (hi : i < k) (hoff : off = j * k + i) (hy : enc y = (enc x).set i u) :
    Own (w.setCell ⟨g, off, none⟩ u) base E k enc (.slice (some ⟨g, 0, none⟩) n c) (xs.set j y) ∧ w.grownBy (w.setCell ⟨g, off, none⟩ u) (some g) := by
  subst hoff
  have hn : n = xs.length := by
    rcases h.2 with ⟨h1, _⟩ | ⟨g', cap, cur, h1, _⟩
    · cases h1
    · injection h1 with _ h2 _
  subst hn
  have := World.ownsRow.stored h (j * k + i) u
  unfold Own
  rw [flatMap_set hk.len xs j i x y u hx hi hy, List.length_set]
  exact this
theorem Own.cellF {α : Type} {w : World} {base E k g c n : Nat} {enc : α → List Value} {xs : List α} (hk : Enc enc k) (h : Own w base E k enc (.slice (some ⟨g, 0, none⟩) n c) xs) (off j i : Nat) (x : α) (u : Value) (hx : xs[j]? = some x) (hu : (enc x)[i]? = some u) (hoff : off = j * k + i) : w.cell? ⟨g, off, none⟩ = some u := by
  subst hoff
  have hj : j < xs.length := (List.getElem?_eq_some_iff.1 hx).1
  have hs := h.slI hk
  obtain ⟨b, o, e, _, hc⟩ := hs.cells (by have := hs.len; omega)
  injection e with e
  injection e with e1 e2
  subst e1 e2
  have := hc j x hx i u hu
  simpa using this
theorem Own.one {α : Type} {w : World} {base E k : Nat} {enc : α → List Value} {v : Value} {xs : List α} (h : Own w base E k enc v xs) : v.oneCell' = true := by
  rcases h.2 with ⟨rfl, _⟩ | ⟨g, cap, cur, rfl, _⟩ <;> rfl
theorem Own.far {α : Type} {w : World} {base E k : Nat} {enc : α → List Value} {v : Value} {xs : List α} (h : Own w base E k enc v xs) {p : Addr} (hp : p.block < base) (u : Value) : Own (w.setCell p u) base E k enc v xs :=
  h.kept (row := some p.block) (grown_setCell (World.grownBy.refl _ _) (.inl rfl) u) (.inr fun e => by have := h.lt p.block e; omega)
/-- A slice result: its value and what it reads as. -/
structure SV (α : Type) where
  A : Option Addr
  n : Nat
  c : Nat
  xs : List α
def SV.v {α : Type} (s : SV α) : Value := .slice s.A s.n s.c
/-- It reads as its list, in blocks from base on. -/
structure SV.ok {α : Type} (w : World) (base k : Nat) (enc : α → List Value) (s : SV α) : Prop where
  sl : Sl w k enc s.A s.n s.c s.xs
  fresh : ∀ b o, s.A = some ⟨b, o, none⟩ → base ≤ b
  nil : s.A = none → s.c = 0
  spot : ∀ ad, s.A = some ad → ad.spot = none
/-- A list of the call's own whose value is written out. -/
theorem Own.okv {α : Type} {w : World} {base E k n c : Nat} {enc : α → List Value} {A : Option Addr} {xs : List α} (hk : Enc enc k) (h : Own w base E k enc (.slice A n c) xs) : SV.ok w base k enc ⟨A, n, c, xs⟩ := by
  obtain ⟨A', c', hv, hA, hs, hf⟩ := h.sl hk
  injection hv with h1 h2 h3
  subst h1 h2 h3
  exact ⟨hs, fun b o e => (hf b o e).1, hA.1, hA.2⟩
theorem Own.len {α : Type} {w : World} {base E k n c : Nat} {enc : α → List Value} {A : Option Addr} {xs : List α} (h : Own w base E k enc (.slice A n c) xs) : n = xs.length := by
  rcases h.2 with ⟨h1, h2⟩ | ⟨g, cap, cur, h1, _⟩
  · injection h1 with _ h3 _; rw [h3, ← h2]
  · injection h1 with _ h3 _
theorem SV.ok.mono {α : Type} {w : World} {base base' k : Nat} {enc : α → List Value} {s : SV α} (h : SV.ok w base k enc s) (hb : base' ≤ base) : SV.ok w base' k enc s := ⟨h.sl, fun b o e => Nat.le_trans hb (h.fresh b o e), h.nil, h.spot⟩
end Go.Proofs.YtckgdlgdipfgmaaGreat

namespace Go.Proofs.YtckgdlgdipfgmaaGreat
set_option linter.unusedVariables false
set_option linter.unusedSimpArgs false
open Go.RowKit

/-- A block whose first o cells are those of a list. -/
def Upto (w : World) (g E o : Nat) (flat : List Value) : Prop := ∃ arr : Array Value, Blk w g E arr ∧ arr.size = flat.length ∧ ∀ i, i < o → arr[i]? = flat[i]?
theorem Upto.below {w w' : World} {g E o : Nat} {flat : List Value} (h : Upto w g E o flat) (hb : Below w.heap.size w w') : Upto w' g E o flat := by
  obtain ⟨arr, hB, h1, h2⟩ := h
  exact ⟨arr, hB.below hb, h1, h2⟩
theorem Upto.frozen {w : World} {g E o : Nat} {flat : List Value} (h : Upto w g E o flat) (i : Nat) : w.frozen? ⟨g, i, none⟩ = false := by
  obtain ⟨arr, hB, _⟩ := h
  exact hB.frozen i
theorem Upto.has {w : World} {g E o : Nat} {flat : List Value} (h : Upto w g E o flat) {i : Nat} {u : Value} (hi : flat[i]? = some u) : ∃ v, w.cell? ⟨g, i, none⟩ = some v := by
  obtain ⟨arr, hB, h1, _⟩ := h
  have : i < arr.size := by rw [h1]; exact (List.getElem?_eq_some_iff.1 hi).1
  exact ⟨_, (hB.cell i).trans (Array.getElem?_eq_getElem this)⟩
theorem Upto.lt {w : World} {g E o : Nat} {flat : List Value} (h : Upto w g E o flat) : g < w.heap.size := by
  obtain ⟨arr, hB, _⟩ := h
  exact hB.lt
theorem Upto.set {w : World} {g E o : Nat} {flat : List Value} {u : Value} (h : Upto w g E o flat) (hu : flat[o]? = some u) : Upto (w.setCell ⟨g, o, none⟩ u) g E (o + 1) flat := by
  obtain ⟨arr, hB, h1, h2⟩ := h
  have ho : o < arr.size := by rw [h1]; exact (List.getElem?_eq_some_iff.1 hu).1
  refine ⟨_, hB.set_ o u, by simpa using h1, fun i hi => ?_⟩
  by_cases e : i = o
  · subst e
    rw [hu, Array.getElem?_setIfInBounds_self_of_lt ho]
  · rw [Array.getElem?_setIfInBounds_ne (Ne.symm e)]
    exact h2 i (by omega)
theorem Upto.full {w : World} {g E o : Nat} {flat : List Value} (h : Upto w g E o flat) (ho : flat.length ≤ o) : Blk w g E flat.toArray := by
  obtain ⟨arr, hB, h1, h2⟩ := h
  have : arr = flat.toArray := by
    apply Array.ext_getElem?
    intro i
    by_cases hi : i < flat.length
    · rw [h2 i (by omega)]; simp
    · rw [Array.getElem?_eq_none (by omega)]; simp; omega
  rw [← this]; exact hB
theorem Upto.made {w : World} {base E k g n c : Nat} {α : Type} {enc : α → List Value} {xs ys : List α} (hk : Enc enc k) (h : Own w base E k enc (.slice (some ⟨g, 0, none⟩) n n) ys) (hx : xs.length = ys.length) : Upto w g E 0 (xs.flatMap enc) := by
  rcases h.2 with ⟨h1, _⟩ | ⟨g', cap, cur, h1, _, hb, _, _, hc, _⟩
  · cases h1
  · injection h1 with h1 h2 h3
    injection h1 with h1
    injection h1 with h1
    subst h1
    refine ⟨cur, hb, ?_, fun i hi => absurd hi (Nat.not_lt_zero _)⟩
    rw [flatMap_len hk.len, hc, ← h3, hx, ← h2]
theorem flat_at {α : Type} {k : Nat} {enc : α → List Value} (hk : Enc enc k) {xs : List α} {j : Nat} {x : α} (hj : xs[j]? = some x) (i o : Nat) (u : Value) (hu : (enc x)[i]? = some u) (ho : o = j * k + i) : (xs.flatMap enc)[o]? = some u := by
  subst ho
  exact flatMap_get hk.len xs j x i u hj hu
/-- A slice of the call's own that is whole: what 'to..S' hands back. -/
def whole (n : Nat) (g : Nat) : Value := .slice (some ⟨g, 0, none⟩) n n
end Go.Proofs.YtckgdlgdipfgmaaGreat

namespace Go.Proofs.YtckgdlgdipfgmaaGreat
set_option linter.unusedVariables false
set_option linter.unusedSimpArgs false
open Go.RowKit

def inB (n lo hi : Int) : Bool := decide (lo ≤ n) && decide (n ≤ hi)
theorem inB_true {n lo hi : Int} : inB n lo hi = true ↔ lo ≤ n ∧ n ≤ hi := by simp [inB]
theorem inB_false {n lo hi : Int} : inB n lo hi = false ↔ n < lo ∨ hi < n := by
  rw [← Bool.not_eq_true, inB_true]; omega

theorem in_any (n lo hi : Int) (w : World) : Calls Tryz.prog 79 #[.int .i64 n, .int .i64 lo, .int .i64 hi] w fun e w' => .returned (.bool (inB n lo hi)) = e ∧ w = w' := by
  cases hb : inB n lo hi
  · rw [inB_false] at hb
    by_cases h1 : lo ≤ n
    · have h2 : ¬ n ≤ hi := by omega
      clear hb
      go_enter Tryz.func79, Tryz.ntmps79
      go_wp2
      go_ret
      exact ⟨rfl, rfl⟩
    · clear hb
      go_enter Tryz.func79, Tryz.ntmps79
      go_wp2
      go_ret
      exact ⟨rfl, rfl⟩
  · rw [inB_true] at hb
    obtain ⟨h1, h2⟩ := hb
    go_enter Tryz.func79, Tryz.ntmps79
    go_wp2
    go_ret
    exact ⟨rfl, rfl⟩

/-- A window. -/
structure Win where
  base : Int
  size : Int
  wr : Bool
instance : Inhabited Win := ⟨⟨0, 0, false⟩⟩
def Win.cells (x : Win) : List Value := [.int .i64 x.base, .int .i64 x.size, .bool x.wr]
def Win.ok (x : Win) : Bool := inB x.base 0 4095 && inB x.size 1 (4096 - x.base)
def Win.has (x : Win) (p : Int) : Bool := inB p x.base (x.base + x.size - 1)
theorem Win.ok_true {x : Win} : x.ok = true ↔ 0 ≤ x.base ∧ x.base ≤ 4095 ∧ 1 ≤ x.size ∧ x.size ≤ 4096 - x.base := by
  simp [Win.ok, inB_true, and_assoc]

theorem valid_any (x : Win) (w : World) : Calls Tryz.prog 152 #[.agg #[.int .i64 x.base, .int .i64 x.size, .bool x.wr]] w fun e w' => .returned (.bool x.ok) = e ∧ Below w.heap.size w w' := by
  obtain ⟨b, s, wr⟩ := x
  simp only [Win.ok]
  cases hb : inB b 0 4095
  · have H := Lib.hid hb
    clear hb
    go_enter Tryz.func152, Tryz.ntmps152
    go_wp2_with (go_at_call 79; refine (in_any _ _ _ _).mono ?_; rw [H.out]; rintro e w' ⟨rfl, rfl⟩)
    go_ret
    exact ⟨rfl, (Below.refl _ _).alloc (Nat.le_refl _) _⟩
  · have h := inB_true.1 hb
    have H := Lib.hid hb
    clear hb
    go_enter Tryz.func152, Tryz.ntmps152
    go_wp2_with fail
    refine (in_any _ _ _ _).mono ?_; rw [H.out]; rintro e w' ⟨rfl, rfl⟩
    go_wp2_with (go_at_call 79; refine (in_any _ _ _ _).mono ?_; rintro e w' ⟨rfl, rfl⟩)
    go_ret
    exact ⟨by simp, (Below.refl _ _).alloc (Nat.le_refl _) _⟩

theorem bad_any (x : Win) (w : World) : Calls Tryz.prog 151 #[.agg #[.int .i64 x.base, .int .i64 x.size, .bool x.wr]] w fun e w' => .returned (.bool (!x.ok)) = e ∧ Below w.heap.size w w' := by
  go_enter Tryz.func151, Tryz.ntmps151
  go_wp2_with (go_at_call 152; refine (valid_any _ _).mono ?_; rintro e w1 ⟨rfl, hb⟩)
  go_ret
  exact ⟨rfl, ((Below.refl _ _).alloc (Nat.le_refl _) _).trans (hb.mono (by simp))⟩

end Go.Proofs.YtckgdlgdipfgmaaGreat

namespace Go.Proofs.YtckgdlgdipfgmaaGreat
set_option linter.unusedVariables false
set_option linter.unusedSimpArgs false
open Go.RowKit

abbrev PartV := SV Win × Int
def eP (x : PartV) : List Value := [x.1.v, .int .i64 x.2]
theorem encP : Enc eP 2 := ⟨fun _ => rfl, fun x u h => by simp [eP] at h; rcases h with rfl | rfl <;> rfl⟩
/-- The windows of all partitions of a list can be read. -/
def PtOk (w : World) (xs : List PartV) : Prop := ∀ x ∈ xs, Sl w 3 Win.cells x.1.A x.1.n x.1.c x.1.xs
theorem PtOk.below {w w' : World} {xs : List PartV} (h : PtOk w xs) (hb : Below w.heap.size w w') : PtOk w' xs := fun x hx => (h x hx).below hb
end Go.Proofs.YtckgdlgdipfgmaaGreat

namespace Go.Proofs.YtckgdlgdipfgmaaGreat
set_option linter.unusedVariables false
set_option linter.unusedSimpArgs false
open Go.RowKit

structure Near (w : World) where
  W : World
  b : Below w.heap.size w W

instance (w : World) : Nonempty (Near w) := ⟨⟨w, Below.refl _ _⟩⟩
theorem Near.drew (w : World) : Below w.heap.size w { w with drawn := w.drawn + 1 } := ⟨rfl, rfl, rfl, Nat.le_refl _, fun _ _ => rfl⟩

theorem wp_region_near {P : Program} {id : Nat} {Q : Exit → Act → World → Prop} {a : Act} {w : World} {l : List Oper} (hm : P.follows .mixedOrders = true) (hB : Region.lexB .any l.toArray = true)
    (h : wpQuiet P l.toArray (fun w' => ∃ n : Near w, w' = n.W) (fun a' => ∀ n : Near w, Q .normal a' n.W) l a) : (Code.region id l.toArray true).wp P Q a w := by
  refine wp_region_quiet (C := fun w' => ∃ n : Near w, w' = n.W) hm hB ⟨⟨_, Near.drew w⟩, rfl⟩ ?_
  have : (fun a' => ∀ w', (∃ n : Near w, w' = n.W) → Q .normal a' w') = (fun a' => ∀ n : Near w, Q .normal a' n.W) := by
    funext a'
    apply propext
    exact ⟨fun h n => h _ ⟨n, rfl⟩, fun h w' ⟨n, e⟩ => by rw [e]; exact h n⟩
  rw [this]
  exact h

theorem near_call {P : Program} {f : FuncId} {args : Array Value} {w : World} {x : Near w} {v : Value} (h : Calls P f args x.W fun e w' => .returned v = e ∧ Below x.W.heap.size x.W w') :
    Calls P f args x.W fun e w'' => e = .returned v ∧ ∃ y : Near w, w'' = y.W := h.mono fun _ _ ⟨a, b⟩ => ⟨a.symm, ⟨_, thn x.b b⟩, rfl⟩
theorem near_same {P : Program} {f : FuncId} {args : Array Value} {w : World} {x : Near w} {v : Value} (h : Calls P f args x.W fun e w' => .returned v = e ∧ x.W = w') :
    Calls P f args x.W fun e w'' => e = .returned v ∧ ∃ y : Near w, w'' = y.W := h.mono fun _ _ ⟨a, b⟩ => ⟨a.symm, x, b.symm⟩
theorem below_set3' {B g : Nat} {a w : World} (h : Below B a w) (hp : B ≤ g) (i j k : Nat) (x y z : Value) : Below B a (((w.setCell ⟨g, i, none⟩ x).setCell ⟨g, j, none⟩ y).setCell ⟨g, k, none⟩ z) :=
  ((h.setCell (p := ⟨g, i, none⟩) hp x).setCell (p := ⟨g, j, none⟩) hp y).setCell (p := ⟨g, k, none⟩) hp z
theorem below_set3 {B g : Nat} {a w : World} (h : Below B a w) (hp : B ≤ g) (x y z : Value) : Below B a (((w.setCell ⟨g, 0, none⟩ x).setCell ⟨g, 1, none⟩ y).setCell ⟨g, 2, none⟩ z) :=
  ((h.setCell (p := ⟨g, 0, none⟩) hp x).setCell (p := ⟨g, 1, none⟩) hp y).setCell (p := ⟨g, 2, none⟩) hp z
theorem Blk.near {w : World} {g : Nat} {t : TypeId} {cs : Array Value} (h : Blk w g t cs) (x : Near w) : Blk x.W g t cs := h.below x.b
end Go.Proofs.YtckgdlgdipfgmaaGreat

namespace Go.Proofs.YtckgdlgdipfgmaaGreat
set_option linter.unusedVariables false
set_option linter.unusedSimpArgs false
open Go.RowKit

/-- A block of a size whose first cells are those of a list. -/
def UptoN (w : World) (g E size : Nat) (pre : List Value) : Prop := ∃ arr : Array Value, Blk w g E arr ∧ arr.size = size ∧ ∀ i, i < pre.length → arr[i]? = pre[i]?
section
variable {w w' : World} {g E size : Nat} {pre : List Value}
theorem UptoN.below (h : UptoN w g E size pre) (hb : Below w.heap.size w w') : UptoN w' g E size pre := by
  obtain ⟨arr, hB, h1, h2⟩ := h
  exact ⟨arr, hB.below hb, h1, h2⟩
theorem UptoN.frozen (h : UptoN w g E size pre) (i : Nat) : w.frozen? ⟨g, i, none⟩ = false := by
  obtain ⟨arr, hB, _⟩ := h
  exact hB.frozen i
theorem UptoN.has (h : UptoN w g E size pre) {i : Nat} (hi : i < size) : ∃ v, w.cell? ⟨g, i, none⟩ = some v := by
  obtain ⟨arr, hB, h1, _⟩ := h
  exact ⟨_, (hB.cell i).trans (Array.getElem?_eq_getElem (by omega))⟩
theorem UptoN.lt (h : UptoN w g E size pre) : g < w.heap.size := by
  obtain ⟨arr, hB, _⟩ := h
  exact hB.lt
theorem UptoN.set {o : Nat} (h : UptoN w g E size pre) (u : Value) (ho : o = pre.length) (hs : o < size) : UptoN (w.setCell ⟨g, o, none⟩ u) g E size (pre ++ [u]) := by
  subst ho
  obtain ⟨arr, hB, h1, h2⟩ := h
  refine ⟨_, hB.set_ _ u, by simpa using h1, fun i hi => ?_⟩
  by_cases e : i = pre.length
  · subst e
    rw [Array.getElem?_setIfInBounds_self_of_lt (by omega)]
    simp
  · have hi' : i < pre.length := by simp at hi; omega
    rw [Array.getElem?_setIfInBounds_ne (Ne.symm e), List.getElem?_append_left hi']
    exact h2 i hi'
theorem UptoN.full (h : UptoN w g E size pre) (ho : pre.length = size) : Blk w g E pre.toArray := by
  obtain ⟨arr, hB, h1, h2⟩ := h
  have : arr = pre.toArray := by
    apply Array.ext_getElem?
    intro i
    by_cases hi : i < pre.length
    · rw [h2 i hi]; simp
    · rw [Array.getElem?_eq_none (by omega)]; simp; omega
  rw [← this]; exact hB
theorem UptoN.made {base k n c : Nat} {α : Type} {enc : α → List Value} {ys : List α} (hk : Enc enc k) (h : Own w base E k enc (.slice (some ⟨g, 0, none⟩) n n) ys) : UptoN w g E (n * k) [] := by
  rcases h.2 with ⟨h1, _⟩ | ⟨g', cap, cur, h1, _, hb, _, _, hc, _⟩
  · cases h1
  · injection h1 with h1 h2 h3
    injection h1 with h1
    injection h1 with h1
    subst h1
    exact ⟨cur, hb, by rw [hc, ← h3], fun i hi => absurd hi (Nat.not_lt_zero _)⟩
end
theorem map_take_succ {α β : Type} {f : α → β} {l : List α} {kk : Nat} {x : α} (hx : l[kk]? = some x) : (l.take (kk + 1)).map f = (l.take kk).map f ++ [f x] := by
  rw [List.take_add_one, hx]; simp
theorem map_at {α α' β : Type} {f : α → β} {f' : α' → β} {l : List α} {l' : List α'} (h : l.map f = l'.map f') {kk : Nat} {x : α} {x' : α'} (hx : l[kk]? = some x) (hx' : l'[kk]? = some x') : f x = f' x' := by
  have h1 : (l.map f)[kk]? = some (f x) := by rw [List.getElem?_map, hx]; rfl
  have h2 : (l'.map f')[kk]? = some (f' x') := by rw [List.getElem?_map, hx']; rfl
  rw [h, h2] at h1
  injection h1 with h1
  exact h1.symm

abbrev OrdL := SV (Int × Int × Int)
abbrev CoreT := SV Int × Int × Bool
abbrev HoldR := SV Int
def eOL (x : OrdL) : List Value := [x.v]
def eCo (x : CoreT) : List Value := [x.1.v, .int .i64 x.2.1, .bool x.2.2]
def eHr (x : HoldR) : List Value := [x.v]
theorem encOL : Enc eOL 1 := ⟨fun _ => rfl, fun x u h => by simp [eOL] at h; subst h; rfl⟩
theorem encCo : Enc eCo 3 := ⟨fun _ => rfl, fun x u h => by simp [eCo] at h; rcases h with rfl | rfl | rfl <;> rfl⟩
theorem encHr : Enc eHr 1 := ⟨fun _ => rfl, fun x u h => by simp [eHr] at h; subst h; rfl⟩
/-- What an element says. -/
def cP (x : PartV) : List Win × Int := (x.1.xs, x.2)
def cO (x : OrdL) : List (Int × Int × Int) := x.xs
def cC (x : CoreT) : List Int × Int × Bool := (x.1.xs, x.2.1, x.2.2)
def cH (x : HoldR) : List Int := x.xs
/-- Its slice can be read. -/
def okP (w : World) (x : PartV) : Prop := Sl w 3 Win.cells x.1.A x.1.n x.1.c x.1.xs
def okO (w : World) (x : OrdL) : Prop := Sl w 3 eO x.A x.n x.c x.xs
def okC (w : World) (x : CoreT) : Prop := Sl w 1 eI x.1.A x.1.n x.1.c x.1.xs
def okH (w : World) (x : HoldR) : Prop := Sl w 1 eI x.A x.n x.c x.xs
/-- Its slice is short. -/
def smP (x : PartV) : Prop := x.1.n ≤ 1048576
def smO (x : OrdL) : Prop := x.n ≤ 1048576
def smC (x : CoreT) : Prop := x.1.n ≤ 1048576
def smH (x : HoldR) : Prop := x.n ≤ 1048576
section
variable {w w' : World}
theorem okP.below {x : PartV} (h : okP w x) (hb : Below w.heap.size w w') : okP w' x := Sl.below h hb
theorem okO.below {x : OrdL} (h : okO w x) (hb : Below w.heap.size w w') : okO w' x := Sl.below h hb
theorem okC.below {x : CoreT} (h : okC w x) (hb : Below w.heap.size w w') : okC w' x := Sl.below h hb
theorem okH.below {x : HoldR} (h : okH w x) (hb : Below w.heap.size w w') : okH w' x := Sl.below h hb
end
/-- A slice whose block lies behind a bound, and is whole and can be written. -/
def Fr (w : World) (base : Nat) (A : Option Addr) : Prop := ∃ g t cs, A = some ⟨g, 0, none⟩ ∧ base ≤ g ∧ Blk w g t cs
theorem Fr.some {w : World} {base g t : Nat} {cs : Array Value} (hB : Blk w g t cs) (h : base ≤ g) : Fr w base (some ⟨g, 0, none⟩) := ⟨g, t, cs, rfl, h, hB⟩
theorem Fr.ge {w : World} {base : Nat} {A : Option Addr} (h : Fr w base A) (b o : Nat) (e : A = .some ⟨b, o, none⟩) : base ≤ b := by
  obtain ⟨g, t, cs, rfl, hb, -⟩ := h
  injection e with e
  injection e with e1 _
  omega
theorem Fr.mono {w : World} {base base' : Nat} {A : Option Addr} (h : Fr w base A) (hb : base' ≤ base) : Fr w base' A := by
  obtain ⟨g, t, cs, rfl, h1, h2⟩ := h
  exact ⟨g, t, cs, rfl, Nat.le_trans hb h1, h2⟩
theorem Fr.below {w w' : World} {base : Nat} {A : Option Addr} (h : Fr w base A) (hb : Below w.heap.size w w') : Fr w' base A := by
  obtain ⟨g, t, cs, rfl, h1, h2⟩ := h
  exact ⟨g, t, cs, rfl, h1, h2.below hb⟩
theorem Fr.set {w : World} {base : Nat} {A : Option Addr} (h : Fr w base A) {p : Addr} (hp : p.block < base) (u : Value) : Fr (w.setCell p u) base A := by
  obtain ⟨g, t, cs, rfl, h1, h2⟩ := h
  exact ⟨g, t, cs, rfl, h1, h2.far (by omega) u⟩
theorem Fr.nil {w : World} {base : Nat} {A : Option Addr} (h : Fr w base A) {P : Prop} (e : A = none) : P := by
  obtain ⟨g, t, cs, rfl, -⟩ := h
  cases e
theorem Sl.setF {α : Type} {w : World} {k n c base : Nat} {enc : α → List Value} {A : Option Addr} {xs : List α} (h : Sl w k enc A n c xs) (hA : Fr w base A) {p : Addr} (hp : p.block < base) (u : Value) : Sl (w.setCell p u) k enc A n c xs :=
  h.keep (by simp [World.setCell]) (fun b o e => Below.heap_setCell _ _ _ _ (by have := hA.ge b o e; omega))
/-- An element's slice can be read, in a block behind a bound. -/
def liP (w : World) (base : Nat) (x : PartV) : Prop := okP w x ∧ Fr w base x.1.A
def liO (w : World) (base : Nat) (x : OrdL) : Prop := okO w x ∧ Fr w base x.A
def liC (w : World) (base : Nat) (x : CoreT) : Prop := okC w x ∧ Fr w base x.1.A
def liH (w : World) (base : Nat) (x : HoldR) : Prop := okH w x ∧ Fr w base x.A
section
variable {w w' : World} {base base' : Nat} {p : Addr} {u : Value}
theorem liP.below {x : PartV} (h : liP w base x) (hb : Below w.heap.size w w') : liP w' base x := ⟨okP.below h.1 hb, h.2.below hb⟩
theorem liO.below {x : OrdL} (h : liO w base x) (hb : Below w.heap.size w w') : liO w' base x := ⟨okO.below h.1 hb, h.2.below hb⟩
theorem liC.below {x : CoreT} (h : liC w base x) (hb : Below w.heap.size w w') : liC w' base x := ⟨okC.below h.1 hb, h.2.below hb⟩
theorem liH.below {x : HoldR} (h : liH w base x) (hb : Below w.heap.size w w') : liH w' base x := ⟨okH.below h.1 hb, h.2.below hb⟩
theorem liP.set {x : PartV} (h : liP w base x) (hp : p.block < base) : liP (w.setCell p u) base x := ⟨Sl.setF h.1 h.2 hp u, h.2.set hp u⟩
theorem liO.set {x : OrdL} (h : liO w base x) (hp : p.block < base) : liO (w.setCell p u) base x := ⟨Sl.setF h.1 h.2 hp u, h.2.set hp u⟩
theorem liC.set {x : CoreT} (h : liC w base x) (hp : p.block < base) : liC (w.setCell p u) base x := ⟨Sl.setF h.1 h.2 hp u, h.2.set hp u⟩
theorem liH.set {x : HoldR} (h : liH w base x) (hp : p.block < base) : liH (w.setCell p u) base x := ⟨Sl.setF h.1 h.2 hp u, h.2.set hp u⟩
theorem liP.mono {x : PartV} (h : liP w base x) (hb : base' ≤ base) : liP w base' x := ⟨h.1, h.2.mono hb⟩
theorem liO.mono {x : OrdL} (h : liO w base x) (hb : base' ≤ base) : liO w base' x := ⟨h.1, h.2.mono hb⟩
theorem liC.mono {x : CoreT} (h : liC w base x) (hb : base' ≤ base) : liC w base' x := ⟨h.1, h.2.mono hb⟩
theorem liH.mono {x : HoldR} (h : liH w base x) (hb : base' ≤ base) : liH w base' x := ⟨h.1, h.2.mono hb⟩
end
/-- All elements of a list; the list is short, and all its elements. -/
def AllE {β : Type} (q : β → Prop) (l : List β) : Prop := ∀ x ∈ l, q x
theorem AllE.mono {β : Type} {q q' : β → Prop} {l : List β} (h : AllE q l) (hq : ∀ x, q x → q' x) : AllE q' l := fun x hx => hq x (h x hx)
theorem AllE.add {β : Type} {q : β → Prop} {l : List β} (h : AllE q l) {y : β} (hy : q y) : AllE q (l ++ [y]) := fun x hx => (List.mem_append.1 hx).elim (h x) (fun h9 => by rw [List.mem_singleton.1 h9]; exact hy)
def shortL {β : Type} (n : Nat) (sm : β → Prop) (l : List β) : Prop := n ≤ 1048576 ∧ ∀ x ∈ l, sm x
end Go.Proofs.YtckgdlgdipfgmaaGreat

namespace Go.Proofs.YtckgdlgdipfgmaaGreat
set_option linter.unusedVariables false
set_option linter.unusedSimpArgs false
open Go.RowKit

theorem appInt : AppT Tryz.prog 47 3 1 8 := AppT.mk' (z := .int .i64 0) (by kernel_rfl) (by kernel_rfl) rfl (by decide) (by decide)
theorem zeroInt : ZeroT Tryz.prog 47 3 1 eI (0 : Int) := ZeroT.mk' (z := .int .i64 0) (by kernel_rfl) (by kernel_rfl) rfl (by decide) (bytes := 8) (by decide)
theorem appSlot : AppT Tryz.prog 36 123 2 16 := AppT.mk' (z := .agg #[.int .i64 0, .int .i64 0]) (by kernel_rfl) (by kernel_rfl) rfl (by decide) (by decide)
theorem zeroSlot : ZeroT Tryz.prog 36 123 2 eS ((0, 0) : Int × Int) := ZeroT.mk' (z := .agg #[.int .i64 0, .int .i64 0]) (by kernel_rfl) (by kernel_rfl) rfl (by decide) (bytes := 16) (by decide)
theorem appChan : AppT Tryz.prog 35 78 4 32 := AppT.mk' (z := .agg #[.int .i64 0, .int .i64 0, .int .i64 0, .int .i64 0]) (by kernel_rfl) (by kernel_rfl) rfl (by decide) (by decide)
theorem zeroChan : ZeroT Tryz.prog 35 78 4 eC ((0, 0, 0, 0) : Int × Int × Int × Int) := ZeroT.mk' (z := .agg #[.int .i64 0, .int .i64 0, .int .i64 0, .int .i64 0]) (by kernel_rfl) (by kernel_rfl) rfl (by decide) (bytes := 32) (by decide)
theorem appOrd : AppT Tryz.prog 76 87 3 24 := AppT.mk' (z := .agg #[.int .i64 0, .int .i64 0, .int .i64 0]) (by kernel_rfl) (by kernel_rfl) rfl (by decide) (by decide)
theorem zeroOrd : ZeroT Tryz.prog 76 87 3 eO ((0, 0, 0) : Int × Int × Int) := ZeroT.mk' (z := .agg #[.int .i64 0, .int .i64 0, .int .i64 0]) (by kernel_rfl) (by kernel_rfl) rfl (by decide) (bytes := 24) (by decide)
end Go.Proofs.YtckgdlgdipfgmaaGreat

namespace Go.Proofs.YtckgdlgdipfgmaaGreat
set_option linter.unusedVariables false
set_option linter.unusedSimpArgs false
open Go.RowKit Go.Shelf

set_option maxHeartbeats 200000 in
theorem indexWin (p : Win → Bool) (g : Nat) (lb : Array Value) (eg : ∀ args w, (callFunc g args).run Tryz.prog w = .ok (.enter g args) w) (A : Option Addr) (n c : Nat) (xs : List Win) (w : World) (ok : Win → Prop) (hok : ∀ x ∈ xs, ok x)
    (hp : Pred Tryz.prog g lb (fun x => .agg x.cells.toArray) ok p w) (hs : Sl w 3 Win.cells A n c xs) :
    Calls Tryz.prog 157 #[.slice A n c, .func (.func g) #[] lb] w fun e w' => .returned (.int .i64 (idxP p xs)) = e ∧ Below w.heap.size w w' := by
  have hle := hs.le
  have hmax := hs.max
  go_enter Tryz.func157, Tryz.ntmps157
  go_wp2
  go_loopg [5, 8] n (fun gg _ s8 wr => ∃ kk : Nat, kk ≤ n ∧ n - kk ≤ gg ∧ s8 = .int .i64 kk ∧ Aside (Below w.heap.size w wr) ∧ Aside (∀ j y, j < kk → xs[j]? = some y → p y = false))
  case atStart => exact ⟨0, Nat.zero_le _, by omega, rfl, Below.refl _ w, fun j _ hj => absurd hj (Nat.not_lt_zero _)⟩
  case round =>
    obtain ⟨kk, hkk, hg, rfl, BW, AA⟩ := hrel
    by_cases hlt : kk < n
    · have hltz : (kk : Int) < (n : Int) := by omega
      obtain ⟨b, o, rfl, hb, hc⟩ := hs.cells (by omega)
      have hlx : kk < xs.length := by have := hs.len; omega
      have hx : xs[kk]? = some xs[kk] := List.getElem?_eq_getElem hlx
      have hcall := hp wr xs[kk] (hok _ (List.getElem_mem hlx)) BW.out
      have hc0 := (BW.out.cell (p := ⟨b, o + kk * 3 + 0, none⟩) hb).trans (hc kk _ hx 0 _ rfl)
      have hc1 := (BW.out.cell (p := ⟨b, o + kk * 3 + 1, none⟩) hb).trans (hc kk _ hx 1 _ rfl)
      have hc2 := (BW.out.cell (p := ⟨b, o + kk * 3 + 2, none⟩) hb).trans (hc kk _ hx 2 _ rfl)
      clear hc hp hok
      have HX := Lib.hid hx
      clear hx
      generalize xs[kk] = y at hcall hc0 hc1 hc2 HX
      simp only [Win.cells, Nat.add_zero] at hcall hc0 hc1 hc2
      cases hq : p y with
      | true =>
        rw [hq] at hcall
        have HQ := Lib.hid hq
        clear hq
        go_wp2_with fail
        refine hcall.mono ?_
        rintro e w' ⟨rfl, hb'⟩
        go_wp2
        go_ret
        refine ⟨?_, BW.out.trans (hb'.mono BW.out.size)⟩
        rw [idxP_hit p xs kk y HX.out HQ.out AA.out]; rfl
      | false =>
        rw [hq] at hcall
        have HQ := Lib.hid hq
        clear hq
        go_wp2_with fail
        refine hcall.mono ?_
        rintro e w' ⟨rfl, hb'⟩
        go_wp2
        go_roundg (n - (kk + 1))
        case measure => omega
        case rel =>
          refine ⟨kk + 1, by omega, by omega, by go_num, BW.out.trans (hb'.mono BW.out.size), (show Aside _ from fun j z hj hz => ?_)⟩
          by_cases e : j = kk
          · subst e
            have := HX.out
            rw [this] at hz
            injection hz with hz
            rw [← hz]; exact HQ.out
          · exact AA.out j z (by omega) hz
    · have hltz : ¬ (kk : Int) < (n : Int) := by omega
      have : kk = n := by omega
      subst this
      go_wp2
      go_ret
      refine ⟨?_, BW.out⟩
      rw [idxP_miss p xs (fun j y hj hy => AA.out j y (by have := hs.len; omega) hy)]; rfl

theorem containsWin (p : Win → Bool) (g : Nat) (lb : Array Value) (eg : ∀ args w, (callFunc g args).run Tryz.prog w = .ok (.enter g args) w) (A : Option Addr) (n c : Nat) (xs : List Win) (w : World) (ok : Win → Prop) (hok : ∀ x ∈ xs, ok x)
    (hp : Pred Tryz.prog g lb (fun x => .agg x.cells.toArray) ok p w) (hs : Sl w 3 Win.cells A n c xs) :
    Calls Tryz.prog 150 #[.slice A n c, .func (.func g) #[] lb] w fun e w' => .returned (.bool (xs.any p)) = e ∧ Below w.heap.size w w' := by
  rw [← idxP_nonneg p xs]
  have hcall : ∀ W : World, W = w → Calls Tryz.prog 157 #[.slice A n c, .func (.func g) #[] lb] W fun e w' => .returned (.int .i64 (idxP p xs)) = e ∧ Below W.heap.size W w' := by
    rintro W rfl
    exact indexWin p g lb eg A n c xs _ ok hok hp hs
  have hc := hcall w rfl
  clear hcall hp hs
  generalize idxP p xs = i at hc ⊢
  go_enter Tryz.func150, Tryz.ntmps150
  go_wp2_with fail
  refine hc.mono ?_
  rintro e w' ⟨rfl, hb⟩
  go_wp2
  go_ret
  exact ⟨rfl, hb⟩

def winsOk (xs : List Win) : Bool := decide (xs.length ≤ 12) && xs.all Win.ok
theorem winsOk_true {xs : List Win} : winsOk xs = true ↔ xs.length ≤ 12 ∧ ∀ x ∈ xs, x.ok = true := by simp [winsOk]
theorem any_not_ok (xs : List Win) : (!xs.any fun x => !x.ok) = xs.all Win.ok := by
  induction xs with
  | nil => rfl
  | cons a l ih => simp [← ih]

theorem enters_bad (args : Array Value) (w : World) : (callFunc 151 args).run Tryz.prog w = .ok (.enter 151 args) w := enters_of Tryz.func151 (by kernel_rfl) rfl args w

theorem windowsValid_any (A : Option Addr) (n c : Nat) (xs : List Win) (w : World) (hs : Sl w 3 Win.cells A n c xs) :
    Calls Tryz.prog 136 #[.slice A n c] w fun e w' => .returned (.bool (winsOk xs)) = e ∧ Below w.heap.size w w' := by
  have hl := hs.len
  by_cases h12 : n ≤ 12
  · have hv : winsOk xs = !xs.any fun x => !x.ok := by rw [any_not_ok]; simp [winsOk, hl, h12]
    rw [hv]
    have hcall : ∀ W : World, W = w → Calls Tryz.prog 150 #[.slice A n c, .func (.func 151) #[] #[]] W fun e w' => .returned (.bool (xs.any fun x => !x.ok)) = e ∧ Below W.heap.size W w' := by
      rintro W rfl
      exact containsWin _ _ _ enters_bad A n c xs _ (fun _ => True) (fun _ _ => trivial) (fun W x _ _ => bad_any x W) hs
    generalize (xs.any fun x => !x.ok) = v at hcall ⊢
    clear hv hl
    have hc := hcall w rfl
    clear hcall hs
    go_enter Tryz.func136, Tryz.ntmps136
    go_wp2_with fail
    refine hc.mono ?_
    rintro e w' ⟨rfl, hb⟩
    go_wp2
    go_ret
    exact ⟨rfl, hb⟩
  · have hv : winsOk xs = false := by simp [winsOk, hl, h12]
    rw [hv]
    clear hs
    go_enter Tryz.func136, Tryz.ntmps136
    go_wp2
    go_ret
    exact ⟨rfl, Below.refl _ _⟩
end Go.Proofs.YtckgdlgdipfgmaaGreat

namespace Go.Proofs.YtckgdlgdipfgmaaGreat
set_option linter.unusedVariables false
set_option linter.unusedSimpArgs false
open Go.RowKit

theorem l1In_any (n lo hi : Int) (w : World) : Calls Tryz.prog 30 #[.int .i64 n, .int .i64 lo, .int .i64 hi] w fun e w' => .returned (.bool (inB n lo hi)) = e ∧ w = w' := by
  cases hb : inB n lo hi
  · rw [inB_false] at hb
    by_cases h1 : lo ≤ n
    · have h2 : ¬ n ≤ hi := by omega
      clear hb
      go_enter Tryz.func30, Tryz.ntmps30
      go_wp2
      go_ret
      exact ⟨rfl, rfl⟩
    · clear hb
      go_enter Tryz.func30, Tryz.ntmps30
      go_wp2
      go_ret
      exact ⟨rfl, rfl⟩
  · rw [inB_true] at hb
    obtain ⟨h1, h2⟩ := hb
    go_enter Tryz.func30, Tryz.ntmps30
    go_wp2
    go_ret
    exact ⟨rfl, rfl⟩
end Go.Proofs.YtckgdlgdipfgmaaGreat

namespace Go.Proofs.YtckgdlgdipfgmaaGreat
set_option linter.unusedVariables false
set_option linter.unusedSimpArgs false
open Go.RowKit Go.Shelf

def atP (place : Int) (wr : Bool) (x : Win) : Bool := x.has place && (x.wr || !wr)

def windowAt (xs : List Win) (place : Int) (wr : Bool) : Int := if winsOk xs then idxP (atP place wr) xs else -1

end Go.Proofs.YtckgdlgdipfgmaaGreat

namespace Go.Proofs.YtckgdlgdipfgmaaGreat
set_option linter.unusedVariables false
set_option linter.unusedSimpArgs false
open Go.RowKit

theorem l1Window_any (x : Win) (w : World) : Calls Tryz.prog 147 #[.agg #[.int .i64 x.base, .int .i64 x.size, .bool x.wr]] w fun e w' => .returned (.bool x.ok) = e ∧ Below w.heap.size w w' := by
  obtain ⟨b, s, wr⟩ := x
  simp only [Win.ok]
  cases hb : inB b 0 4095
  · have H := Lib.hid hb
    clear hb
    go_enter Tryz.func147, Tryz.ntmps147
    go_wp2_with (go_at_call 30; refine (l1In_any _ _ _ _).mono ?_; rw [H.out]; rintro e w' ⟨rfl, rfl⟩)
    go_ret
    exact ⟨rfl, (Below.refl _ _).alloc (Nat.le_refl _) _⟩
  · have h := inB_true.1 hb
    have H := Lib.hid hb
    clear hb
    go_enter Tryz.func147, Tryz.ntmps147
    go_wp2_with fail
    refine (l1In_any _ _ _ _).mono ?_; rw [H.out]; rintro e w' ⟨rfl, rfl⟩
    go_wp2_with (go_at_call 30; refine (l1In_any _ _ _ _).mono ?_; rintro e w' ⟨rfl, rfl⟩)
    go_ret
    exact ⟨by simp, (Below.refl _ _).alloc (Nat.le_refl _) _⟩

theorem specWindowsValid_any (A : Option Addr) (n c : Nat) (xs : List Win) (w : World) (hs : Sl w 3 Win.cells A n c xs) :
    Calls Tryz.prog 132 #[.slice A n c] w fun e w' => .returned (.bool (winsOk xs)) = e ∧ Below w.heap.size w w' := by
  have hle := hs.le
  have hmax := hs.max
  go_enter Tryz.func132, Tryz.ntmps132
  go_wp2
  go_loopg [3] n (fun gg s3 wr => ∃ kk : Nat, kk ≤ n ∧ n - kk ≤ gg ∧ s3 = .int .i64 kk ∧ Aside (Below w.heap.size w wr) ∧ Aside (∀ j y, j < kk → xs[j]? = some y → (Win.ok) y = true))
  case atStart => exact ⟨0, Nat.zero_le _, by omega, rfl, (show Aside _ from (by repeat (first | exact Below.refl _ _ | assumption | apply alo | (apply Below.setCell; rotate_left; (first | assumption | exact Nat.le_refl _ | (simp only []; omega))) | apply Below.drew | apply belowDrewN | (refine thn ?_ (by assumption))))), fun j _ hj => absurd hj (Nat.not_lt_zero _)⟩
  case round =>
    obtain ⟨kk, hkk, hg, rfl, BW, AA⟩ := hrel
    by_cases hlt : kk < n
    · have hltz : (kk : Int) < (n : Int) := by omega
      obtain ⟨b, o, rfl, hb, hc⟩ := hs.cells (by omega)
      have hlx : kk < xs.length := by have := hs.len; omega
      have hx : xs[kk]? = some xs[kk] := List.getElem?_eq_getElem hlx
      have hc0 := (BW.out.cell (p := ⟨b, o + kk * 3 + 0, none⟩) hb).trans (hc kk _ hx 0 _ rfl)
      have hc1 := (BW.out.cell (p := ⟨b, o + kk * 3 + 1, none⟩) hb).trans (hc kk _ hx 1 _ rfl)
      have hc2 := (BW.out.cell (p := ⟨b, o + kk * 3 + 2, none⟩) hb).trans (hc kk _ hx 2 _ rfl)
      clear hc
      have HX := Lib.hid hx
      clear hx
      generalize xs[kk] = y at hc0 hc1 hc2 HX
      simp only [Win.cells, Nat.add_zero, Nat.mul_one] at hc0 hc1 hc2
      have hcall := fun W => l1Window_any y W
      cases hq : y.ok
      all_goals
        simp only [hq] at hcall
        have HQ := Lib.hid hq
        clear hq
        go_wp2_with fail; refine (hcall _).mono ?_; rintro e w2 ⟨rfl, hbw2⟩
        go_wp2
      · go_ret
        exact ⟨by rw [winsOk, all_fails HX.out HQ.out, Bool.and_false]; rfl, (by have hBW := BW.out; repeat (first | exact Below.refl _ _ | assumption | apply alo | (apply Below.setCell; rotate_left; (first | assumption | exact Nat.le_refl _ | (simp only []; omega))) | apply Below.drew | apply belowDrewN | (refine thn ?_ (by assumption))))⟩
      · go_roundg (n - (kk + 1))
        case measure => omega
        case rel => exact ⟨kk + 1, by omega, by omega, by go_num, (show Aside _ from (by have hBW := BW.out; repeat (first | exact Below.refl _ _ | assumption | apply alo | (apply Below.setCell; rotate_left; (first | assumption | exact Nat.le_refl _ | (simp only []; omega))) | apply Below.drew | apply belowDrewN | (refine thn ?_ (by assumption))))), (show Aside _ from all_step AA.out HX.out (HQ.out))⟩
    · have hltz : ¬ (kk : Int) < (n : Int) := by omega
      obtain rfl : kk = n := by omega
      have hl := Lib.hid hs.len
      go_wp2
      go_ret
      exact ⟨by rw [winsOk, all_holds hl.out AA.out, hl.out, Bool.and_true]; simp; omega, BW.out⟩
end Go.Proofs.YtckgdlgdipfgmaaGreat

namespace Go.Proofs.YtckgdlgdipfgmaaGreat
set_option linter.unusedVariables false
set_option linter.unusedSimpArgs false
open Go.RowKit

theorem belowDrewN' {B : Nat} {a w : World} (h : Below B a w) (n : Nat) : Below B a (w.drewN n) := ⟨h.os, h.tape, h.output, h.size, h.block⟩

theorem Sl.nth {α : Type} {w wr : World} {k n c : Nat} {enc : α → List Value} {A : Option Addr} {xs : List α} (hs : Sl w k enc A n c xs) {kk : Nat} (hk : kk < n) (hb : Below w.heap.size w wr) :
    ∃ b o, A = some ⟨b, o, none⟩ ∧ ∃ y, xs[kk]? = some y ∧ ∀ i u, (enc y)[i]? = some u → wr.cell? ⟨b, o + kk * k + i, none⟩ = some u := by
  obtain ⟨b, o, rfl, hbl, hc⟩ := hs.cells (by omega)
  have hlx : kk < xs.length := by have := hs.len; omega
  have hx : xs[kk]? = some xs[kk] := List.getElem?_eq_getElem hlx
  exact ⟨b, o, rfl, xs[kk], hx, fun i u hu => (hb.cell (p := ⟨b, o + kk * k + i, none⟩) hbl).trans (hc kk _ hx i u hu)⟩

theorem Calls.flip {P : Program} {f : FuncId} {args : Array Value} {w : World} {v : Value} (h : Calls P f args w fun e w' => .returned v = e ∧ w = w') : Calls P f args w fun e w' => e = .returned v ∧ w' = w := h.mono fun _ _ ⟨a, b⟩ => ⟨a.symm, b.symm⟩
theorem all_stepF {α : Type} {p : α → Bool} {xs : List α} {kk : Nat} {y : α} (h : ∀ j z, j < kk → xs[j]? = some z → p z = false) (hx : xs[kk]? = some y) (hp : p y = false) : ∀ j z, j < kk + 1 → xs[j]? = some z → p z = false := by
  intro j z hj hz
  by_cases e : j = kk
  · subst e; rw [hx] at hz; injection hz with hz; rw [← hz]; exact hp
  · exact h j z (by omega) hz
theorem same_step {α : Type} {xs ys : List α} {kk : Nat} {y : α} (h : ∀ j, j < kk → xs[j]? = ys[j]?) (hx : xs[kk]? = some y) (hy : ys[kk]? = some y) : ∀ j, j < kk + 1 → xs[j]? = ys[j]? := by
  intro j hj
  by_cases e : j = kk
  · subst e; rw [hx, hy]
  · exact h j (by omega)
theorem same_fails {α : Type} {xs ys : List α} {kk : Nat} {y z : α} (hx : xs[kk]? = some y) (hy : ys[kk]? = some z) (h : ¬ y = z) : ¬ xs = ys := by
  rintro rfl
  rw [hx] at hy
  injection hy with hy
  exact h hy
theorem same_holds {α : Type} {xs ys : List α} {n : Nat} (hn : xs.length = n) (hn' : ys.length = n) (h : ∀ j, j < n → xs[j]? = ys[j]?) : xs = ys := by
  apply List.ext_getElem?
  intro j
  by_cases hj : j < n
  · exact h j hj
  · rw [List.getElem?_eq_none (by omega), List.getElem?_eq_none (by omega)]

end Go.Proofs.YtckgdlgdipfgmaaGreat
