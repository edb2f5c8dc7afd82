/- Append onto a list of the call's own; words for such lists. The slice types that this program appends to. Lists read element by element. More on lists of the call's own beside other blocks. slices.IndexFunc, slices.ContainsFunc at Channel. Windows: in, valid, has, WindowsValid, WindowAt, alive. spec.l1In. slices.IndexFunc, slices.ContainsFunc at int. HoldValid of impl and spec. -/
import Derived.Test.YtckgdlgdipfgmaaGreatO1
import Derived.Laws.OwnMore
import Derived.Laws.AppendOwnNone
import Derived.OwnWalk
import Derived.Laws.MakeOwn
import Derived.Test.YtckgdlgdipfgmaaGreatChecked
import Derived.Deep.QuietTactic
import Derived.BigQuiet
import Derived.Shelf.Abstract

namespace Go.Proofs.YtckgdlgdipfgmaaGreat
set_option linter.unusedVariables false
set_option linter.unusedSimpArgs false
open Go.RowKit

/-- A slice value of the call's own, from block base on, that reads as the list xs. -/
def Own {α : Type} (w : World) (base E k : Nat) (enc : α → List Value) (v : Value) (xs : List α) : Prop := w.ownsRow base E k v xs.length (xs.flatMap enc)

/-- What is asked of a slice type T over elements of type E. -/
structure AppT (P : Program) (T E k bytes : Nat) : Prop where
  under : P.underlying T = some (.slice E)
  info : ∃ i z, P.info? E = some i ∧ i.zero = some z ∧ i.size = k ∧ i.bytes = bytes ∧ z.cells.size = k
  pos : 0 < k
  small : bytes ≤ 1000
theorem AppT.mk' {P : Program} {T E k bytes : Nat} {z : Value} (h1 : P.underlying T = some (.slice E)) (h2 : (P.info? E).map (fun i => (i.zero, i.size, i.bytes)) = some (some z, k, bytes)) (h3 : z.cells.size = k) (h4 : 0 < k) (h5 : bytes ≤ 1000) : AppT P T E k bytes := by
  obtain ⟨i, h⟩ := info_parts h2
  exact ⟨h1, ⟨i, z, h.1, h.2.1, h.2.2.1, h.2.2.2, h3⟩, h4, h5⟩

/-- What is asked of an encoding. -/
structure Enc {α : Type} (enc : α → List Value) (k : Nat) : Prop where
  len : ∀ x, (enc x).length = k
  one : ∀ x, ∀ u ∈ enc x, u.oneCell' = true

theorem encI : Enc eI 1 := ⟨fun _ => rfl, fun x u h => by simp [eI] at h; subst h; rfl⟩
theorem encS : Enc eS 2 := ⟨fun _ => rfl, fun x u h => by simp [eS] at h; rcases h with rfl | rfl <;> rfl⟩
theorem encO : Enc eO 3 := ⟨fun _ => rfl, fun x u h => by simp [eO] at h; rcases h with rfl | rfl | rfl <;> rfl⟩
theorem encC : Enc eC 4 := ⟨fun _ => rfl, fun x u h => by simp [eC] at h; rcases h with rfl | rfl | rfl | rfl <;> rfl⟩
theorem encH : Enc eH 2 := ⟨fun _ => rfl, fun x u h => by simp [eH] at h; rcases h with rfl | rfl <;> rfl⟩

section
variable {α : Type} {w w' : World} {base E k T : Nat} {enc : α → List Value} {v : Value} {xs : List α}
theorem Own.nil : Own w base E k enc (.slice none 0 0) ([] : List α) := World.ownsRow_nil _ _ _ _
theorem Own.lt (h : Own w base E k enc v xs) : ∀ g, v.ownBlock = some g → base ≤ g ∧ g < w.heap.size := World.ownsRow.lt h
theorem Own.kept {row : Option Nat} (h : Own w base E k enc v xs) (hg : w.grownBy w' row) (hne : v.ownBlock = none ∨ v.ownBlock ≠ row) : Own w' base E k enc v xs := World.ownsRow.kept h hg hne
theorem Own.alloc (h : Own w base E k enc v xs) (o : Obj) : Own (w.alloc o) base E k enc v xs := World.ownsRow.alloc h o
theorem Own.drew (h : Own w base E k enc v xs) : Own w.drew base E k enc v xs := h
theorem Own.drewN (h : Own w base E k enc v xs) (n : Nat) : Own (w.drewN n) base E k enc v xs := h
theorem Own.stp {r : Nat} {b : Int} (h : Own w base E k enc v xs) (hs : Stp r T w b w') (hr : r < base) : Own w' base E k enc v xs :=
  h.kept hs.grown (.inr fun e => by have := h.lt r e; omega)
theorem Own.stpOf {w0 : World} {r : Nat} {b : Int} (_ : Own w0 base E k enc v xs) (hs : Stp r T w b w') (h : Own w base E k enc v xs) (hr : r < base) : Own w' base E k enc v xs := h.stp hs hr
theorem Own.below (h : Own w base E k enc v xs) (hb : Below w.heap.size w w') : Own w' base E k enc v xs := by
  refine h.kept (row := none) ⟨hb.os, hb.tape, hb.output, hb.size, fun i hi _ => hb.block i hi⟩ ?_
  cases hv : v.ownBlock <;> simp
theorem Own.of_blk {g : Nat} (h : Blk w g E (xs.flatMap enc).toArray) (hb : base ≤ g) (hk : Enc enc k) (hm : xs.length ≤ maxLen) : Own w base E k enc (.slice (some ⟨g, 0, none⟩) xs.length xs.length) xs :=
  ⟨flatMap_len hk.len xs, .inr ⟨g, xs.length, _, rfl, hb, h, Nat.le_refl _, hm, by simp [flatMap_len hk.len xs], by rw [← flatMap_len hk.len xs]; exact List.take_of_length_le (Nat.le_refl _)⟩⟩
/-- Its slice value. -/
theorem Own.sl (hk : Enc enc k) (h : Own w base E k enc v xs) : ∃ A c, v = .slice A xs.length c ∧ ((A = none → c = 0) ∧ ∀ ad, A = some ad → ad.spot = none) ∧ Sl w k enc A xs.length c xs ∧ ∀ b o, A = some ⟨b, o, none⟩ → base ≤ b ∧ b < w.heap.size := by
  obtain ⟨A, c, hv, hs, hA⟩ := Sl.of_own hk.len h rfl
  refine ⟨A, c, hv, ⟨fun e => ?_, fun ad e => ?_⟩, hs, hA⟩
  all_goals rcases h.2 with ⟨h1, _⟩ | ⟨g, cap, cur, h1, _⟩
  · rw [h1] at hv; injection hv with _ _ h3; exact h3.symm
  · rw [h1, e] at hv; injection hv with h2 _; cases h2
  · rw [h1, e] at hv; injection hv with h2 _; cases h2
  · rw [h1, e] at hv; injection hv with h2 _; injection h2 with h2; rw [← h2]
theorem Sl.of_blk {g : Nat} (h : Blk w g E (xs.flatMap enc).toArray) (hk : Enc enc k) (hm : xs.length ≤ 9223372036854775807) : Sl w k enc (some ⟨g, 0, none⟩) xs.length xs.length xs :=
  ⟨rfl, Nat.le_refl _, hm, fun _ => ⟨g, 0, rfl, h.lt, fun j x hj i u hu => by
    have h1 := flatMap_get hk.len xs j x i u hj hu
    rw [Nat.zero_add, h.cell]
    simpa using h1⟩⟩
end

/-- append(out, src...): out a list of the call's own, src any list that can be read. -/
theorem app_wp {P : Program} {w : World} {o : Oper} {a : Act} {K : Act → World → Prop} {Q : Exit → Act → World → Prop} (s x : Operand) {T E k bytes : Nat} (hT : AppT P T E k bytes)
    (ho : o.op = .call { callee := .builtin .append, args := #[s, x], argTypes := #[T, T] }) {α : Type} {enc : α → List Value} (hk : Enc enc k) (base : Nat) (v : Value) (xs : List α) (hs : a.eval s = v) (hown : Own w base E k enc v xs)
    (A : Option Addr) (m c : Nat) (ys : List α) (hx : a.eval x = .slice A m c) (hA : A = none → c = 0) (hsrc : Sl w k enc A m c ys)
    (hlen : xs.length + m ≤ 100000000) (hbase : base ≤ w.heap.size)
    (h : ∀ v' w', Own w' base E k enc v' (xs ++ ys) → w.grownBy w' v.ownBlock → K (a.put o.dst v') w') : o.wp P a w K Q := by
  obtain ⟨i, z, hi, hz, hsz, hby, hzs⟩ := hT.info
  have hyl := hsrc.len
  have hbytes : (xs.length + m) * bytes ≤ 140737488355328 := Nat.le_trans (Nat.mul_le_mul hlen hT.small) (by decide)
  cases A with
  | none =>
    have hc : c = 0 := hA rfl
    have hm : m = 0 := by have := hsrc.le; omega
    subst hc hm
    obtain rfl : ys = [] := List.eq_nil_of_length_eq_zero hyl
    have hrun := run_append_owned_none (P := P) (w := w) base T o.type E i k hT.under hi v xs.length _ hown
    unfold Oper.wp
    simp [execOp, ho, resolve, invoke, builtin, hs, hx, hrun, Result.andThen]
    exact h v w (by simpa using hown) (World.grownBy.refl _ _)
  | some ad =>
    refine wp_append_own _ s x T ho base E i z k bytes hT.under hi hz hsz hby hzs hT.pos v xs.length _ hs hown ad m c (ys.flatMap enc) hx (by rw [flatMap_len hk.len, hyl]) ?_ ?_ (by unfold maxLen; omega) hbytes hbase ?_
    · intro j u hu
      by_cases hm : 0 < m
      · obtain ⟨b, off, e, hb, hc⟩ := hsrc.cells hm
        injection e with e
        subst e
        have hj : j < (ys.flatMap enc).length := (List.getElem?_eq_some_iff.1 hu).1
        rw [flatMap_len hk.len] at hj
        have hq : j / k < ys.length := (Nat.div_lt_iff_lt_mul hT.pos).2 hj
        have hr := Nat.mod_lt j hT.pos
        have hd : j / k * k + j % k = j := Nat.div_add_mod' j k
        have hy : ys[j / k]? = some ys[j / k] := List.getElem?_eq_getElem hq
        have he : (enc ys[j / k])[j % k]? = some ((enc ys[j / k])[j % k]'(by rw [hk.len]; exact hr)) := List.getElem?_eq_getElem _
        have h1 := flatMap_get hk.len ys _ _ _ _ hy he
        rw [hd, hu] at h1
        injection h1 with h1
        subst h1
        have h2 := hc _ _ hy _ _ he
        rw [show (⟨b, off, none⟩ : Addr).add j = ⟨b, off + j / k * k + j % k, none⟩ by rw [Addr.add_lit]; congr 1; omega]
        exact h2
      · obtain rfl : ys = [] := List.eq_nil_of_length_eq_zero (by omega)
        simp at hu
    · intro u hu
      obtain ⟨y, _, hy⟩ := List.mem_flatMap.1 hu
      exact hk.one y u hy
    · intro v' w' hown' hg _
      refine h v' w' ?_ hg
      unfold Own
      rw [List.flatMap_append, List.length_append, hyl]
      exact hown'
theorem app_own {P : Program} {w : World} {ops : Array Oper} {rest : List Oper} {o : Oper} {a : Act} {Q : Exit → Act → World → Prop} (hgd : Region.wanted o (yielded ops a.tmps) = true) (s x : Operand) {T E k bytes : Nat} (hT : AppT P T E k bytes)
    (ho : o.op = .call { callee := .builtin .append, args := #[s, x], argTypes := #[T, T] }) {α : Type} {enc : α → List Value} (hk : Enc enc k) (base : Nat) (v : Value) (xs : List α) (hs : a.eval s = v) (hown : Own w base E k enc v xs)
    (A : Option Addr) (m c : Nat) (ys : List α) (hx : a.eval x = .slice A m c) (hA : A = none → c = 0) (hsrc : Sl w k enc A m c ys)
    (hlen : xs.length + m ≤ 100000000) (hbase : base ≤ w.heap.size)
    (h : ∀ v' w', Own w' base E k enc v' (xs ++ ys) → w.grownBy w' v.ownBlock → wpList P ops Q rest (a.put o.dst v') w') : wpList P ops Q (o :: rest) a w := by
  refine wpList_step fun K hK => ?_
  simp only [hgd, if_true]
  exact app_wp s x hT ho hk base v xs hs hown A m c ys hx hA hsrc hlen hbase fun v' w' h1 h2 => hK _ _ (h v' w' h1 h2)
/-- The same at a step of a region that draws its order. -/
theorem app_step {P : Program} {w : World} {ops : Array Oper} {o : Oper} {a : Act} {K : Act → World → Prop} {Q : Exit → Act → World → Prop} {E' : Prop} (hgd : Region.wanted o (yielded ops a.tmps) = true) (s x : Operand) {T E k bytes : Nat} (hT : AppT P T E k bytes)
    (ho : o.op = .call { callee := .builtin .append, args := #[s, x], argTypes := #[T, T] }) {α : Type} {enc : α → List Value} (hk : Enc enc k) (base : Nat) (v : Value) (xs : List α) (hs : a.eval s = v) (hown : Own w base E k enc v xs)
    (A : Option Addr) (m c : Nat) (ys : List α) (hx : a.eval x = .slice A m c) (hA : A = none → c = 0) (hsrc : Sl w k enc A m c ys)
    (hlen : xs.length + m ≤ 100000000) (hbase : base ≤ w.heap.size)
    (h : ∀ v' w', Own w' base E k enc v' (xs ++ ys) → w.grownBy w' v.ownBlock → K (a.put o.dst v') w') : if Region.wanted o (yielded ops a.tmps) = true then Oper.wp P o a w K Q else E' := by
  rw [if_pos hgd]
  exact app_wp s x hT ho hk base v xs hs hown A m c ys hx hA hsrc hlen hbase h

section
variable {α : Type} {w w' a : World} {base E k T : Nat} {enc : α → List Value} {v : Value} {xs : List α}
/-- What an append does to the rest. -/
theorem Stp.app {r : Nat} {b : Int} (hS : Stp r T a b w) (hown : Own w base E k enc v xs) (hg : w.grownBy w' v.ownBlock) (ha : a.heap.size ≤ base) (hr : r < base) : Stp r T a b w' :=
  ⟨grown_mono hS.grown hg (fun g e => .inr (by have := hown.lt g e; omega)), hS.rd.grown hg (fun g e => by have := hown.lt g e; omega)⟩
theorem belowApp {B : Nat} (hB : Below B a w) (hown : Own w base E k enc v xs) (hg : w.grownBy w' v.ownBlock) (hb : B ≤ base) (ha : B ≤ w.heap.size) : Below B a w' :=
  hB.trans ⟨hg.os, hg.tape, hg.output, hg.size, fun i hi => hg.block i (by omega) (fun e => by have := hown.lt i e.symm; omega)⟩
theorem Blk.app {g : Nat} {t : TypeId} {cs : Array Value} (h : Blk w g t cs) (hown : Own w base E k enc v xs) (hg : w.grownBy w' v.ownBlock) (hb : g < base) : Blk w' g t cs :=
  (hg.block g h.lt (fun e => by have := hown.lt g e.symm; omega)).trans h
theorem Sl.app {β : Type} {k' : Nat} {enc' : β → List Value} {A : Option Addr} {n c : Nat} {ys : List β} (h : Sl w k' enc' A n c ys) (hown : Own w base E k enc v xs) (hg : w.grownBy w' v.ownBlock) (hA : ∀ b o, A = some ⟨b, o, none⟩ → b < base) : Sl w' k' enc' A n c ys :=
  ⟨h.len, h.le, h.max, fun hn => by
    obtain ⟨b, o, rfl, hb, hc⟩ := h.cells hn
    refine ⟨b, o, rfl, Nat.lt_of_lt_of_le hb hg.size, fun j x hx i u hu => ?_⟩
    exact (World.cell?_of_block (w := w) (hg.block b hb (fun e => by have := hown.lt b e.symm; have := hA b o rfl; omega))).trans (hc j x hx i u hu)⟩
theorem Sl.stp {r : Nat} {b : Int} {A : Option Addr} {n c : Nat} (h : Sl w k enc A n c xs) (hs : Stp r T w b w') (hA : ∀ b o, A = some ⟨b, o, none⟩ → b ≠ r) : Sl w' k enc A n c xs :=
  ⟨h.len, h.le, h.max, fun hn => by
    obtain ⟨g, o, rfl, hb, hc⟩ := h.cells hn
    refine ⟨g, o, rfl, Nat.lt_of_lt_of_le hb hs.grown.size, fun j x hx i u hu => ?_⟩
    exact (World.cell?_of_block (w := w) (hs.grown.block g hb (fun e => hA g o rfl (by injection e)))).trans (hc j x hx i u hu)⟩
end
/-- Stores into a list of numbers of the call's own. -/
theorem flatMap_eI_set (xs : List Int) (j : Nat) (y : Int) : (xs.set j y).flatMap eI = (xs.flatMap eI).set j (.int .i64 y) := by
  induction xs generalizing j with
  | nil => simp
  | cons x xs ih =>
    cases j with
    | zero => simp [eI]
    | succ j => simp only [List.set_cons_succ, List.flatMap_cons, ih]; simp [eI]
theorem Own.stored {w : World} {base E g c n : Nat} {xs : List Int} (h : Own w base E 1 eI (.slice (some ⟨g, 0, none⟩) n c) xs) (j : Nat) (y : Int) :
    Own (w.setCell ⟨g, j, none⟩ (.int .i64 y)) base E 1 eI (.slice (some ⟨g, 0, none⟩) n c) (xs.set j y) ∧ w.grownBy (w.setCell ⟨g, j, none⟩ (.int .i64 y)) (some g) := by
  have hn : n = xs.length := by
    rcases h.2 with ⟨h1, _⟩ | ⟨g', cap, cur, h1, _⟩
    · cases h1
    · injection h1 with _ h2 _
  subst hn
  have := World.ownsRow.stored h j (.int .i64 y)
  unfold Own
  rw [flatMap_eI_set, List.length_set]
  exact this
theorem Own.frozenAt {α : Type} {w : World} {base E k g c n : Nat} {enc : α → List Value} {xs : List α} (h : Own w base E k enc (.slice (some ⟨g, 0, none⟩) n c) xs) (j : Nat) : w.frozen? ⟨g, j, none⟩ = false := by
  have hn : n = xs.length := by
    rcases h.2 with ⟨h1, _⟩ | ⟨g', cap, cur, h1, _⟩
    · cases h1
    · injection h1 with _ h2 _
  subst hn
  exact World.ownsRow.frozenAt h j
/-- A list of the call's own that is not empty. -/
theorem Own.form {α : Type} {w : World} {base E k : Nat} {enc : α → List Value} {v : Value} {xs : List α} (h : Own w base E k enc v xs) (hn : 0 < xs.length) : ∃ g c, v = .slice (some ⟨g, 0, none⟩) xs.length c ∧ base ≤ g ∧ g < w.heap.size ∧ xs.length ≤ c ∧ c ≤ 9223372036854775807 := by
  rcases h.2 with ⟨_, h1⟩ | ⟨g, cap, cur, rfl, hb, hg, hnc, hm, _⟩
  · omega
  · refine ⟨g, cap, rfl, hb, ?_, hnc, by simpa [maxLen] using hm⟩
    rcases Nat.lt_or_ge g w.heap.size with h1 | h1
    · exact h1
    · rw [Array.getElem?_eq_none h1] at hg; cases hg
theorem Own.cellI {w : World} {base E g c n : Nat} {xs : List Int} (h : Own w base E 1 eI (.slice (some ⟨g, 0, none⟩) n c) xs) {j : Nat} {y : Int} (hy : xs[j]? = some y) : w.cell? ⟨g, j, none⟩ = some (.int .i64 y) := by
  obtain ⟨A, c', hv, _, hs, _⟩ := h.sl encI
  injection hv with h1 h2 h3
  subst h1
  have hj : j < xs.length := (List.getElem?_eq_some_iff.1 hy).1
  obtain ⟨b, o, e, _, hc⟩ := hs.cells (by omega)
  injection e with e
  injection e with e1 e2
  subst e1 e2
  have := hc j y hy 0 _ rfl
  simpa using this

theorem Own.slI {α : Type} {w : World} {base E k g c n : Nat} {enc : α → List Value} {xs : List α} (hk : Enc enc k) (h : Own w base E k enc (.slice (some ⟨g, 0, none⟩) n c) xs) : Sl w k enc (some ⟨g, 0, none⟩) n c xs := by
  obtain ⟨A, c', hv, _, hs, _⟩ := h.sl hk
  injection hv with h1 h2 h3
  subst h1 h2 h3
  exact hs
theorem Sl.drewN {α : Type} {w : World} {k n c : Nat} {enc : α → List Value} {A : Option Addr} {xs : List α} (h : Sl w k enc A n c xs) (m : Nat) : Sl (w.drewN m) k enc A n c xs := h.keep (Nat.le_refl _) (fun _ _ _ => rfl)
/-- s[j:], as the walk spells it. -/
theorem Sl.from_ {α : Type} {w : World} {k n c : Nat} {enc : α → List Value} {A : Option Addr} {xs : List α} (h : Sl w k enc A n c xs) (j : Nat) (hj : j ≤ n) :
    Sl w k enc (if c = j then A else Option.map (fun x => x.add (j * k)) A) (n - j) (c - j) (xs.drop j) := by
  have hle := h.le
  have hmax := h.max
  refine h.drop_ j hj (by omega) (by omega) fun b o e hlt => ?_
  rw [if_neg (by omega), e]
  simp only [Option.map_some, Addr.add_lit]
theorem Sl.from1 {α : Type} {w : World} {n c : Nat} {enc : α → List Value} {A : Option Addr} {xs : List α} (h : Sl w 1 enc A n c xs) (j : Nat) (hj : j ≤ n) :
    Sl w 1 enc (if c = j then A else Option.map (fun x => x.add j) A) (n - j) (c - j) (xs.drop j) := by
  have := h.from_ j hj
  rwa [Nat.mul_one] at this
theorem belowDrewN {B : Nat} {a w : World} (h : Below B a w) (n : Nat) : Below B a (w.drewN n) := ⟨h.os, h.tape, h.output, h.size, h.block⟩
/-- What is asked of an element type's zero value. -/
structure ZeroT {α : Type} (P : Program) (T E k : Nat) (enc : α → List Value) (x0 : α) : Prop where
  under : P.underlying T = some (.slice E)
  info : ∃ i z, P.info? E = some i ∧ i.zero = some z ∧ i.size = k ∧ i.bytes ≤ 1000 ∧ z.cells.toList = enc x0
  pos : 0 < k
theorem ZeroT.mk' {α : Type} {P : Program} {T E k bytes : Nat} {enc : α → List Value} {x0 : α} {z : Value} (h1 : P.underlying T = some (.slice E)) (h2 : (P.info? E).map (fun i => (i.zero, i.size, i.bytes)) = some (some z, k, bytes)) (h3 : z.cells.toList = enc x0) (h4 : 0 < k) (h5 : bytes ≤ 1000) : ZeroT P T E k enc x0 := by
  obtain ⟨i, h⟩ := info_parts h2
  exact ⟨h1, ⟨i, z, h.1, h.2.1, h.2.2.1, by rw [h.2.2.2]; exact h5, h3⟩, h4⟩
theorem made_rep {α : Type} {k : Nat} {enc : α → List Value} {x0 : α} {z : Array Value} (hz : z.toList = enc x0) (hk : ∀ x, (enc x).length = k) (h0 : 0 < k) (n : Nat) : (madeCells z (n * k)).toList = (List.replicate n x0).flatMap enc := by
  have hzs : z.size = k := by rw [← Array.length_toList, hz, hk]
  apply List.ext_getElem?
  intro j
  by_cases hj : j < n * k
  · have hq : j / k < n := (Nat.div_lt_iff_lt_mul h0).2 hj
    have hr := Nat.mod_lt j h0
    have hd : j / k * k + j % k = j := Nat.div_add_mod' j k
    have he : (enc x0)[j % k]? = some ((enc x0)[j % k]'(by rw [hk]; exact hr)) := List.getElem?_eq_getElem _
    have h1 := flatMap_get hk (List.replicate n x0) (j / k) x0 (j % k) _ (by rw [List.getElem?_replicate, if_pos hq]) he
    rw [hd] at h1
    rw [h1]
    simp only [madeCells, Array.toList_map, Array.toList_range, List.getElem?_map, List.getElem?_range hj, Option.map_some, Option.some.injEq, hzs]
    have hlt : j % k < z.size := by omega
    rw [getElem!_pos z (j % k) hlt]
    have h2 : z.toList[j % k]? = some z[j % k] := by rw [Array.getElem?_toList]; exact Array.getElem?_eq_getElem hlt
    rw [hz, he] at h2
    injection h2 with h2
    exact h2.symm
  · rw [List.getElem?_eq_none (by rw [Array.length_toList, size_madeCells]; omega), List.getElem?_eq_none (by rw [flatMap_len hk, List.length_replicate]; omega)]
/-- make([]T, n). -/
theorem make_own {P : Program} {w : World} {ops : Array Oper} {rest : List Oper} {o : Oper} {a : Act} {Q : Exit → Act → World → Prop} (hgd : Region.wanted o (yielded ops a.tmps) = true) (l c : Operand) {α : Type} {enc : α → List Value} {x0 : α} {T E k : Nat} (hT : ZeroT P T E k enc x0)
    (hop : o.op = Op.makeSlice T l c) (hk : Enc enc k) (base : Nat) (L C : Int) (n : Nat) (hl : a.eval l = .int .i64 L) (hc : a.eval c = .int .i64 C) (hL : L = (n : Int)) (hC : C = (n : Int)) (hn : n ≤ 100000000) (hbase : base ≤ w.heap.size)
    (h : ∀ w', Own w' base E k enc (.slice (some ⟨w.heap.size, 0, none⟩) n n) (List.replicate n x0) → w.grownBy w' none → wpList P ops Q rest (a.put o.dst (.slice (some ⟨w.heap.size, 0, none⟩) n n)) w') : wpList P ops Q (o :: rest) a w := by
  obtain ⟨i, z, hi, hz, hsz, hby, hzs⟩ := hT.info
  obtain ⟨w', hrun, r1, r2⟩ := run_make_full (P := P) w base T E i z k hT.under hi hz hsz .i64 .i64 n (Nat.le_trans (Nat.mul_le_mul hby hn) (by decide)) (by unfold maxLen; omega) hbase
  subst hL hC
  refine wpList_step fun K hK => ?_
  simp only [hgd, if_true]
  unfold Oper.wp
  simp [execOp, hop, hl, hc, hrun, Result.andThen]
  refine hK _ _ (h w' ?_ r2)
  unfold Own
  rw [List.length_replicate, ← made_rep hzs hk.len hT.pos]
  exact r1
theorem Stp.none {r T : Nat} {a w w' : World} {b : Int} (hS : Stp r T a b w) (hg : w.grownBy w' Option.none) : Stp r T a b w' :=
  ⟨grown_mono hS.grown hg (fun g e => by cases e), hS.rd.grown hg (fun g e => by cases e)⟩
theorem below_of_grown {w w' : World} (hg : w.grownBy w' Option.none) : Below w.heap.size w w' := ⟨hg.os, hg.tape, hg.output, hg.size, fun i hi => hg.block i hi (fun e => by cases e)⟩
theorem flatMap_set {α : Type} {k : Nat} {enc : α → List Value} (hk : ∀ x, (enc x).length = k) : ∀ (xs : List α) (j i : Nat) (x y : α) (u : Value), xs[j]? = some x → i < k → enc y = (enc x).set i u → (xs.set j y).flatMap enc = (xs.flatMap enc).set (j * k + i) u
  | [], j, i, x, y, u, hx, _, _ => by simp at hx
  | a :: xs, 0, i, x, y, u, hx, hi, hy => by
    have : a = x := by simpa using hx
    subst this
    simp only [List.set_cons_zero, List.flatMap_cons, Nat.zero_mul, Nat.zero_add, hy]
    rw [List.set_append_left _ _ (by rw [hk]; exact hi)]
  | a :: xs, j + 1, i, x, y, u, hx, hi, hy => by
    have ih := flatMap_set hk xs j i x y u (by simpa using hx) hi hy
    simp only [List.set_cons_succ, List.flatMap_cons, ih]
    rw [List.set_append_right _ _ (by rw [hk a, Nat.add_mul]; omega), hk a, show (j + 1) * k + i - k = j * k + i by rw [Nat.add_mul]; omega]
/-- A store into a field of an element of a list of the call's own. -/
theorem Own.storedF {α : Type} {w : World} {base E k g c n : Nat} {enc : α → List Value} {xs : List α} (hk : Enc enc k) (h : Own w base E k enc (.slice (some ⟨g, 0, none⟩) n c) xs) (off j i : Nat) (x y : α) (u : Value) (hx : xs[j]? = some x) (hi : i < k) (hoff : off = j * k + i) (hy : enc y = (enc x).set i u) :
    Own (w.setCell ⟨g, off, none⟩ u) base E k enc (.slice (some ⟨g, 0, none⟩) n c) (xs.set j y) ∧ w.grownBy (w.setCell ⟨g, off, none⟩ u) (some g) := by
  subst hoff
  have hn : n = xs.length := by
    rcases h.2 with ⟨h1, _⟩ | ⟨g', cap, cur, h1, _⟩
    · cases h1
    · injection h1 with _ h2 _
  subst hn
  have := World.ownsRow.stored h (j * k + i) u
  unfold Own
  rw [flatMap_set hk.len xs j i x y u hx hi hy, List.length_set]
  exact this
theorem Own.cellF {α : Type} {w : World} {base E k g c n : Nat} {enc : α → List Value} {xs : List α} (hk : Enc enc k) (h : Own w base E k enc (.slice (some ⟨g, 0, none⟩) n c) xs) (off j i : Nat) (x : α) (u : Value) (hx : xs[j]? = some x) (hu : (enc x)[i]? = some u) (hoff : off = j * k + i) : w.cell? ⟨g, off, none⟩ = some u := by
  subst hoff
  have hj : j < xs.length := (List.getElem?_eq_some_iff.1 hx).1
  have hs := h.slI hk
  obtain ⟨b, o, e, _, hc⟩ := hs.cells (by have := hs.len; omega)
  injection e with e
  injection e with e1 e2
  subst e1 e2
  have := hc j x hx i u hu
  simpa using this
theorem Own.one {α : Type} {w : World} {base E k : Nat} {enc : α → List Value} {v : Value} {xs : List α} (h : Own w base E k enc v xs) : v.oneCell' = true := by
  rcases h.2 with ⟨rfl, _⟩ | ⟨g, cap, cur, rfl, _⟩ <;> rfl
theorem Own.far {α : Type} {w : World} {base E k : Nat} {enc : α → List Value} {v : Value} {xs : List α} (h : Own w base E k enc v xs) {p : Addr} (hp : p.block < base) (u : Value) : Own (w.setCell p u) base E k enc v xs :=
  h.kept (row := some p.block) (grown_setCell (World.grownBy.refl _ _) (.inl rfl) u) (.inr fun e => by have := h.lt p.block e; omega)
/-- A slice result: its value and what it reads as. -/
structure SV (α : Type) where
  A : Option Addr
  n : Nat
  c : Nat
  xs : List α
def SV.v {α : Type} (s : SV α) : Value := .slice s.A s.n s.c
/-- It reads as its list, in blocks from base on. -/
structure SV.ok {α : Type} (w : World) (base k : Nat) (enc : α → List Value) (s : SV α) : Prop where
  sl : Sl w k enc s.A s.n s.c s.xs
  fresh : ∀ b o, s.A = some ⟨b, o, none⟩ → base ≤ b
  nil : s.A = none → s.c = 0
  spot : ∀ ad, s.A = some ad → ad.spot = none
/-- A list of the call's own whose value is written out. -/
theorem Own.okv {α : Type} {w : World} {base E k n c : Nat} {enc : α → List Value} {A : Option Addr} {xs : List α} (hk : Enc enc k) (h : Own w base E k enc (.slice A n c) xs) : SV.ok w base k enc ⟨A, n, c, xs⟩ := by
  obtain ⟨A', c', hv, hA, hs, hf⟩ := h.sl hk
  injection hv with h1 h2 h3
  subst h1 h2 h3
  exact ⟨hs, fun b o e => (hf b o e).1, hA.1, hA.2⟩
theorem Own.len {α : Type} {w : World} {base E k n c : Nat} {enc : α → List Value} {A : Option Addr} {xs : List α} (h : Own w base E k enc (.slice A n c) xs) : n = xs.length := by
  rcases h.2 with ⟨h1, h2⟩ | ⟨g, cap, cur, h1, _⟩
  · injection h1 with _ h3 _; rw [h3, ← h2]
  · injection h1 with _ h3 _
theorem SV.ok.mono {α : Type} {w : World} {base base' k : Nat} {enc : α → List Value} {s : SV α} (h : SV.ok w base k enc s) (hb : base' ≤ base) : SV.ok w base' k enc s := ⟨h.sl, fun b o e => Nat.le_trans hb (h.fresh b o e), h.nil, h.spot⟩
end Go.Proofs.YtckgdlgdipfgmaaGreat

namespace Go.Proofs.YtckgdlgdipfgmaaGreat
set_option linter.unusedVariables false
set_option linter.unusedSimpArgs false
open Go.RowKit

theorem appInt : AppT Tryz.prog 47 3 1 8 := AppT.mk' (z := .int .i64 0) (by kernel_rfl) (by kernel_rfl) rfl (by decide) (by decide)
theorem zeroInt : ZeroT Tryz.prog 47 3 1 eI (0 : Int) := ZeroT.mk' (z := .int .i64 0) (by kernel_rfl) (by kernel_rfl) rfl (by decide) (bytes := 8) (by decide)
theorem appSlot : AppT Tryz.prog 36 123 2 16 := AppT.mk' (z := .agg #[.int .i64 0, .int .i64 0]) (by kernel_rfl) (by kernel_rfl) rfl (by decide) (by decide)
theorem zeroSlot : ZeroT Tryz.prog 36 123 2 eS ((0, 0) : Int × Int) := ZeroT.mk' (z := .agg #[.int .i64 0, .int .i64 0]) (by kernel_rfl) (by kernel_rfl) rfl (by decide) (bytes := 16) (by decide)
theorem appChan : AppT Tryz.prog 35 78 4 32 := AppT.mk' (z := .agg #[.int .i64 0, .int .i64 0, .int .i64 0, .int .i64 0]) (by kernel_rfl) (by kernel_rfl) rfl (by decide) (by decide)
theorem zeroChan : ZeroT Tryz.prog 35 78 4 eC ((0, 0, 0, 0) : Int × Int × Int × Int) := ZeroT.mk' (z := .agg #[.int .i64 0, .int .i64 0, .int .i64 0, .int .i64 0]) (by kernel_rfl) (by kernel_rfl) rfl (by decide) (bytes := 32) (by decide)
theorem appOrd : AppT Tryz.prog 76 87 3 24 := AppT.mk' (z := .agg #[.int .i64 0, .int .i64 0, .int .i64 0]) (by kernel_rfl) (by kernel_rfl) rfl (by decide) (by decide)
theorem zeroOrd : ZeroT Tryz.prog 76 87 3 eO ((0, 0, 0) : Int × Int × Int) := ZeroT.mk' (z := .agg #[.int .i64 0, .int .i64 0, .int .i64 0]) (by kernel_rfl) (by kernel_rfl) rfl (by decide) (bytes := 24) (by decide)
end Go.Proofs.YtckgdlgdipfgmaaGreat

namespace Go.Proofs.YtckgdlgdipfgmaaGreat
set_option linter.unusedVariables false
set_option linter.unusedSimpArgs false
open Go.RowKit

theorem belowDrewN' {B : Nat} {a w : World} (h : Below B a w) (n : Nat) : Below B a (w.drewN n) := ⟨h.os, h.tape, h.output, h.size, h.block⟩

theorem Sl.nth {α : Type} {w wr : World} {k n c : Nat} {enc : α → List Value} {A : Option Addr} {xs : List α} (hs : Sl w k enc A n c xs) {kk : Nat} (hk : kk < n) (hb : Below w.heap.size w wr) :
    ∃ b o, A = some ⟨b, o, none⟩ ∧ ∃ y, xs[kk]? = some y ∧ ∀ i u, (enc y)[i]? = some u → wr.cell? ⟨b, o + kk * k + i, none⟩ = some u := by
  obtain ⟨b, o, rfl, hbl, hc⟩ := hs.cells (by omega)
  have hlx : kk < xs.length := by have := hs.len; omega
  have hx : xs[kk]? = some xs[kk] := List.getElem?_eq_getElem hlx
  exact ⟨b, o, rfl, xs[kk], hx, fun i u hu => (hb.cell (p := ⟨b, o + kk * k + i, none⟩) hbl).trans (hc kk _ hx i u hu)⟩

theorem Calls.flip {P : Program} {f : FuncId} {args : Array Value} {w : World} {v : Value} (h : Calls P f args w fun e w' => .returned v = e ∧ w = w') : Calls P f args w fun e w' => e = .returned v ∧ w' = w := h.mono fun _ _ ⟨a, b⟩ => ⟨a.symm, b.symm⟩
theorem all_stepF {α : Type} {p : α → Bool} {xs : List α} {kk : Nat} {y : α} (h : ∀ j z, j < kk → xs[j]? = some z → p z = false) (hx : xs[kk]? = some y) (hp : p y = false) : ∀ j z, j < kk + 1 → xs[j]? = some z → p z = false := by
  intro j z hj hz
  by_cases e : j = kk
  · subst e; rw [hx] at hz; injection hz with hz; rw [← hz]; exact hp
  · exact h j z (by omega) hz
theorem same_step {α : Type} {xs ys : List α} {kk : Nat} {y : α} (h : ∀ j, j < kk → xs[j]? = ys[j]?) (hx : xs[kk]? = some y) (hy : ys[kk]? = some y) : ∀ j, j < kk + 1 → xs[j]? = ys[j]? := by
  intro j hj
  by_cases e : j = kk
  · subst e; rw [hx, hy]
  · exact h j (by omega)
theorem same_fails {α : Type} {xs ys : List α} {kk : Nat} {y z : α} (hx : xs[kk]? = some y) (hy : ys[kk]? = some z) (h : ¬ y = z) : ¬ xs = ys := by
  rintro rfl
  rw [hx] at hy
  injection hy with hy
  exact h hy
theorem same_holds {α : Type} {xs ys : List α} {n : Nat} (hn : xs.length = n) (hn' : ys.length = n) (h : ∀ j, j < n → xs[j]? = ys[j]?) : xs = ys := by
  apply List.ext_getElem?
  intro j
  by_cases hj : j < n
  · exact h j hj
  · rw [List.getElem?_eq_none (by omega), List.getElem?_eq_none (by omega)]

end Go.Proofs.YtckgdlgdipfgmaaGreat

namespace Go.Proofs.YtckgdlgdipfgmaaGreat
set_option linter.unusedVariables false
set_option linter.unusedSimpArgs false
open Go.RowKit

theorem Own.low {α : Type} {w : World} {base base' E k : Nat} {enc : α → List Value} {v : Value} {xs : List α} (h : Own w base E k enc v xs) (hb : base' ≤ base) : Own w base' E k enc v xs :=
  ⟨h.1, h.2.elim .inl fun ⟨g, cap, cur, a, b, c⟩ => .inr ⟨g, cap, cur, a, Nat.le_trans hb b, c⟩⟩
theorem Own.neBlk {α : Type} {w : World} {base E k g t : Nat} {cs : Array Value} {enc : α → List Value} {v : Value} {xs : List α} (h : Own w base E k enc v xs) (hB : Blk w g t cs) (ht : t ≠ E) : v.ownBlock ≠ some g := by
  rcases h.2 with ⟨rfl, _⟩ | ⟨g', cap, cur, rfl, hb, hg, _⟩
  · intro e; cases e
  · intro e
    have e' : g' = g := by injection e
    subst e'
    have h2 := hB
    unfold Blk at h2
    rw [hg] at h2
    injection h2 with h2
    injection h2 with _ h3 _
    exact ht h3.symm
theorem Own.farNe {α : Type} {w : World} {base E k : Nat} {enc : α → List Value} {v : Value} {xs : List α} (h : Own w base E k enc v xs) {p : Addr} (hp : v.ownBlock ≠ some p.block) (u : Value) : Own (w.setCell p u) base E k enc v xs :=
  h.kept (row := some p.block) (grown_setCell (World.grownBy.refl _ _) (.inl rfl) u) (.inr hp)
theorem Blk.appO {w w' : World} {v : Value} {g : Nat} {t : TypeId} {cs : Array Value} (h : Blk w g t cs) (hg : w.grownBy w' v.ownBlock) (hne : v.ownBlock ≠ some g) : Blk w' g t cs := (hg.block g h.lt (fun e => hne e.symm)).trans h
theorem Below.app2 {B : Nat} {a w w' : World} {v : Value} (hB : Below B a w) (hg : w.grownBy w' v.ownBlock) (hv : ∀ g, v.ownBlock = some g → B ≤ g) (ha : B ≤ w.heap.size) : Below B a w' :=
  hB.trans ⟨hg.os, hg.tape, hg.output, hg.size, fun i hi => hg.block i (by omega) (fun e => by have := hv i e.symm; omega)⟩
theorem Own.ne2 {α β : Type} {w : World} {b1 b2 E1 E2 k1 k2 : Nat} {enc1 : α → List Value} {enc2 : β → List Value} {v1 v2 : Value} {xs : List α} {ys : List β} (h1 : Own w b1 E1 k1 enc1 v1 xs) (h2 : Own w b2 E2 k2 enc2 v2 ys) (hE : E1 ≠ E2) : v1.ownBlock = none ∨ v1.ownBlock ≠ v2.ownBlock := by
  rcases h1.2 with ⟨rfl, _⟩ | ⟨g, cap, cur, rfl, hb, hg, _⟩
  · exact .inl rfl
  · refine .inr fun e => ?_
    exact h2.neBlk (g := g) (t := E1) (cs := cur) hg hE e.symm
end Go.Proofs.YtckgdlgdipfgmaaGreat

namespace Go.Proofs.YtckgdlgdipfgmaaGreat
set_option linter.unusedVariables false
set_option linter.unusedSimpArgs false
open Go.RowKit Go.Shelf

set_option maxHeartbeats 400000 in
theorem indexChan (p : (Int × Int × Int × Int) → Bool) (g : Nat) (lb : Array Value) (eg : ∀ args w, (callFunc g args).run Tryz.prog w = .ok (.enter g args) w) (A : Option Addr) (n c : Nat) (xs : List (Int × Int × Int × Int)) (w : World) (ok : (Int × Int × Int × Int) → Prop) (hok : ∀ x ∈ xs, ok x)
    (hp : Pred Tryz.prog g lb (fun x => .agg (eC x).toArray) ok p w) (hs : Sl w 4 eC A n c xs) :
    Calls Tryz.prog 140 #[.slice A n c, .func (.func g) #[] lb] w fun e w' => .returned (.int .i64 (idxP p xs)) = e ∧ Below w.heap.size w w' := by
  have hle := hs.le
  have hmax := hs.max
  go_enter Tryz.func140, Tryz.ntmps140
  go_wp2
  go_loopg [5, 8] n (fun gg _ s8 wr => ∃ kk : Nat, kk ≤ n ∧ n - kk ≤ gg ∧ s8 = .int .i64 kk ∧ Aside (Below w.heap.size w wr) ∧ Aside (∀ j y, j < kk → xs[j]? = some y → p y = false))
  case atStart => exact ⟨0, Nat.zero_le _, by omega, rfl, Below.refl _ w, fun j _ hj => absurd hj (Nat.not_lt_zero _)⟩
  case round =>
    obtain ⟨kk, hkk, hg, rfl, BW, AA⟩ := hrel
    by_cases hlt : kk < n
    · have hltz : (kk : Int) < (n : Int) := by omega
      obtain ⟨b, o, rfl, hb, hc⟩ := hs.cells (by omega)
      have hlx : kk < xs.length := by have := hs.len; omega
      have hx : xs[kk]? = some xs[kk] := List.getElem?_eq_getElem hlx
      have hcall := hp wr xs[kk] (hok _ (List.getElem_mem hlx)) BW.out
      have hc0 := (BW.out.cell (p := ⟨b, o + kk * 4 + 0, none⟩) hb).trans (hc kk _ hx 0 _ rfl)
      have hc1 := (BW.out.cell (p := ⟨b, o + kk * 4 + 1, none⟩) hb).trans (hc kk _ hx 1 _ rfl)
      have hc2 := (BW.out.cell (p := ⟨b, o + kk * 4 + 2, none⟩) hb).trans (hc kk _ hx 2 _ rfl)
      have hc3 := (BW.out.cell (p := ⟨b, o + kk * 4 + 3, none⟩) hb).trans (hc kk _ hx 3 _ rfl)
      clear hc hp hok
      have HX := Lib.hid hx
      clear hx
      generalize xs[kk] = y at hcall hc0 hc1 hc2 hc3 HX
      simp only [eC, Nat.add_zero, Nat.mul_one] at hcall hc0 hc1 hc2 hc3
      cases hq : p y with
      | true =>
        rw [hq] at hcall
        have HQ := Lib.hid hq
        clear hq
        go_wp2_with fail
        refine hcall.mono ?_
        rintro e w' ⟨rfl, hb'⟩
        go_wp2
        go_ret
        refine ⟨?_, BW.out.trans (hb'.mono BW.out.size)⟩
        rw [idxP_hit p xs kk y HX.out HQ.out AA.out]; rfl
      | false =>
        rw [hq] at hcall
        have HQ := Lib.hid hq
        clear hq
        go_wp2_with fail
        refine hcall.mono ?_
        rintro e w' ⟨rfl, hb'⟩
        go_wp2
        go_roundg (n - (kk + 1))
        case measure => omega
        case rel =>
          refine ⟨kk + 1, by omega, by omega, by go_num, BW.out.trans (hb'.mono BW.out.size), (show Aside _ from fun j z hj hz => ?_)⟩
          by_cases e : j = kk
          · subst e
            have := HX.out
            rw [this] at hz
            injection hz with hz
            rw [← hz]; exact HQ.out
          · exact AA.out j z (by omega) hz
    · have hltz : ¬ (kk : Int) < (n : Int) := by omega
      have : kk = n := by omega
      subst this
      go_wp2
      go_ret
      refine ⟨?_, BW.out⟩
      rw [idxP_miss p xs (fun j y hj hy => AA.out j y (by have := hs.len; omega) hy)]; rfl

theorem containsChan (p : (Int × Int × Int × Int) → Bool) (g : Nat) (lb : Array Value) (eg : ∀ args w, (callFunc g args).run Tryz.prog w = .ok (.enter g args) w) (A : Option Addr) (n c : Nat) (xs : List (Int × Int × Int × Int)) (w : World) (ok : (Int × Int × Int × Int) → Prop) (hok : ∀ x ∈ xs, ok x)
    (hp : Pred Tryz.prog g lb (fun x => .agg (eC x).toArray) ok p w) (hs : Sl w 4 eC A n c xs) :
    Calls Tryz.prog 116 #[.slice A n c, .func (.func g) #[] lb] w fun e w' => .returned (.bool (xs.any p)) = e ∧ Below w.heap.size w w' := by
  rw [← idxP_nonneg p xs]
  have hcall : ∀ W : World, W = w → Calls Tryz.prog 140 #[.slice A n c, .func (.func g) #[] lb] W fun e w' => .returned (.int .i64 (idxP p xs)) = e ∧ Below W.heap.size W w' := by
    rintro W rfl
    exact indexChan p g lb eg A n c xs _ ok hok hp hs
  have hc := hcall w rfl
  clear hcall hp hs
  generalize idxP p xs = i at hc ⊢
  go_enter Tryz.func116, Tryz.ntmps116
  go_wp2_with fail
  refine hc.mono ?_
  rintro e w' ⟨rfl, hb⟩
  go_wp2
  go_ret
  exact ⟨rfl, hb⟩
end Go.Proofs.YtckgdlgdipfgmaaGreat

namespace Go.Proofs.YtckgdlgdipfgmaaGreat
set_option linter.unusedVariables false
set_option linter.unusedSimpArgs false
open Go.RowKit

def inB (n lo hi : Int) : Bool := decide (lo ≤ n) && decide (n ≤ hi)
theorem inB_true {n lo hi : Int} : inB n lo hi = true ↔ lo ≤ n ∧ n ≤ hi := by simp [inB]
theorem inB_false {n lo hi : Int} : inB n lo hi = false ↔ n < lo ∨ hi < n := by
  rw [← Bool.not_eq_true, inB_true]; omega

theorem in_any (n lo hi : Int) (w : World) : Calls Tryz.prog 79 #[.int .i64 n, .int .i64 lo, .int .i64 hi] w fun e w' => .returned (.bool (inB n lo hi)) = e ∧ w = w' := by
  cases hb : inB n lo hi
  · rw [inB_false] at hb
    by_cases h1 : lo ≤ n
    · have h2 : ¬ n ≤ hi := by omega
      clear hb
      go_enter Tryz.func79, Tryz.ntmps79
      go_wp2
      go_ret
      exact ⟨rfl, rfl⟩
    · clear hb
      go_enter Tryz.func79, Tryz.ntmps79
      go_wp2
      go_ret
      exact ⟨rfl, rfl⟩
  · rw [inB_true] at hb
    obtain ⟨h1, h2⟩ := hb
    go_enter Tryz.func79, Tryz.ntmps79
    go_wp2
    go_ret
    exact ⟨rfl, rfl⟩

/-- A window. -/
structure Win where
  base : Int
  size : Int
  wr : Bool
instance : Inhabited Win := ⟨⟨0, 0, false⟩⟩
def Win.cells (x : Win) : List Value := [.int .i64 x.base, .int .i64 x.size, .bool x.wr]
def Win.ok (x : Win) : Bool := inB x.base 0 4095 && inB x.size 1 (4096 - x.base)
def Win.has (x : Win) (p : Int) : Bool := inB p x.base (x.base + x.size - 1)
theorem Win.ok_true {x : Win} : x.ok = true ↔ 0 ≤ x.base ∧ x.base ≤ 4095 ∧ 1 ≤ x.size ∧ x.size ≤ 4096 - x.base := by
  simp [Win.ok, inB_true, and_assoc]

theorem valid_any (x : Win) (w : World) : Calls Tryz.prog 152 #[.agg #[.int .i64 x.base, .int .i64 x.size, .bool x.wr]] w fun e w' => .returned (.bool x.ok) = e ∧ Below w.heap.size w w' := by
  obtain ⟨b, s, wr⟩ := x
  simp only [Win.ok]
  cases hb : inB b 0 4095
  · have H := Lib.hid hb
    clear hb
    go_enter Tryz.func152, Tryz.ntmps152
    go_wp2_with (go_at_call 79; refine (in_any _ _ _ _).mono ?_; rw [H.out]; rintro e w' ⟨rfl, rfl⟩)
    go_ret
    exact ⟨rfl, (Below.refl _ _).alloc (Nat.le_refl _) _⟩
  · have h := inB_true.1 hb
    have H := Lib.hid hb
    clear hb
    go_enter Tryz.func152, Tryz.ntmps152
    go_wp2_with fail
    refine (in_any _ _ _ _).mono ?_; rw [H.out]; rintro e w' ⟨rfl, rfl⟩
    go_wp2_with (go_at_call 79; refine (in_any _ _ _ _).mono ?_; rintro e w' ⟨rfl, rfl⟩)
    go_ret
    exact ⟨by simp, (Below.refl _ _).alloc (Nat.le_refl _) _⟩

theorem bad_any (x : Win) (w : World) : Calls Tryz.prog 151 #[.agg #[.int .i64 x.base, .int .i64 x.size, .bool x.wr]] w fun e w' => .returned (.bool (!x.ok)) = e ∧ Below w.heap.size w w' := by
  go_enter Tryz.func151, Tryz.ntmps151
  go_wp2_with (go_at_call 152; refine (valid_any _ _).mono ?_; rintro e w1 ⟨rfl, hb⟩)
  go_ret
  exact ⟨rfl, ((Below.refl _ _).alloc (Nat.le_refl _) _).trans (hb.mono (by simp))⟩

end Go.Proofs.YtckgdlgdipfgmaaGreat

namespace Go.Proofs.YtckgdlgdipfgmaaGreat
set_option linter.unusedVariables false
set_option linter.unusedSimpArgs false
open Go.RowKit

theorem l1In_any (n lo hi : Int) (w : World) : Calls Tryz.prog 30 #[.int .i64 n, .int .i64 lo, .int .i64 hi] w fun e w' => .returned (.bool (inB n lo hi)) = e ∧ w = w' := by
  cases hb : inB n lo hi
  · rw [inB_false] at hb
    by_cases h1 : lo ≤ n
    · have h2 : ¬ n ≤ hi := by omega
      clear hb
      go_enter Tryz.func30, Tryz.ntmps30
      go_wp2
      go_ret
      exact ⟨rfl, rfl⟩
    · clear hb
      go_enter Tryz.func30, Tryz.ntmps30
      go_wp2
      go_ret
      exact ⟨rfl, rfl⟩
  · rw [inB_true] at hb
    obtain ⟨h1, h2⟩ := hb
    go_enter Tryz.func30, Tryz.ntmps30
    go_wp2
    go_ret
    exact ⟨rfl, rfl⟩
end Go.Proofs.YtckgdlgdipfgmaaGreat

namespace Go.Proofs.YtckgdlgdipfgmaaGreat
set_option linter.unusedVariables false
set_option linter.unusedSimpArgs false
open Go.RowKit Go.Shelf

set_option maxHeartbeats 400000 in
theorem indexInt (p : Int → Bool) (g : Nat) (lb : Array Value) (eg : ∀ args w, (callFunc g args).run Tryz.prog w = .ok (.enter g args) w) (A : Option Addr) (n c : Nat) (xs : List Int) (w : World) (ok : Int → Prop) (hok : ∀ x ∈ xs, ok x)
    (hp : Pred Tryz.prog g lb (fun x => .int .i64 x) ok p w) (hs : Sl w 1 eI A n c xs) :
    Calls Tryz.prog 146 #[.slice A n c, .func (.func g) #[] lb] w fun e w' => .returned (.int .i64 (idxP p xs)) = e ∧ Below w.heap.size w w' := by
  have hle := hs.le
  have hmax := hs.max
  go_enter Tryz.func146, Tryz.ntmps146
  go_wp2
  go_loopg [5, 8] n (fun gg _ s8 wr => ∃ kk : Nat, kk ≤ n ∧ n - kk ≤ gg ∧ s8 = .int .i64 kk ∧ Aside (Below w.heap.size w wr) ∧ Aside (∀ j y, j < kk → xs[j]? = some y → p y = false))
  case atStart => exact ⟨0, Nat.zero_le _, by omega, rfl, Below.refl _ w, fun j _ hj => absurd hj (Nat.not_lt_zero _)⟩
  case round =>
    obtain ⟨kk, hkk, hg, rfl, BW, AA⟩ := hrel
    by_cases hlt : kk < n
    · have hltz : (kk : Int) < (n : Int) := by omega
      obtain ⟨b, o, rfl, hb, hc⟩ := hs.cells (by omega)
      have hlx : kk < xs.length := by have := hs.len; omega
      have hx : xs[kk]? = some xs[kk] := List.getElem?_eq_getElem hlx
      have hcall := hp wr xs[kk] (hok _ (List.getElem_mem hlx)) BW.out
      have hc0 := (BW.out.cell (p := ⟨b, o + kk * 1 + 0, none⟩) hb).trans (hc kk _ hx 0 _ rfl)
      clear hc hp hok
      have HX := Lib.hid hx
      clear hx
      generalize xs[kk] = y at hcall hc0 HX
      simp only [eI, Nat.add_zero, Nat.mul_one] at hcall hc0
      cases hq : p y with
      | true =>
        rw [hq] at hcall
        have HQ := Lib.hid hq
        clear hq
        go_wp2_with fail
        refine hcall.mono ?_
        rintro e w' ⟨rfl, hb'⟩
        go_wp2
        go_ret
        refine ⟨?_, BW.out.trans (hb'.mono BW.out.size)⟩
        rw [idxP_hit p xs kk y HX.out HQ.out AA.out]; rfl
      | false =>
        rw [hq] at hcall
        have HQ := Lib.hid hq
        clear hq
        go_wp2_with fail
        refine hcall.mono ?_
        rintro e w' ⟨rfl, hb'⟩
        go_wp2
        go_roundg (n - (kk + 1))
        case measure => omega
        case rel =>
          refine ⟨kk + 1, by omega, by omega, by go_num, BW.out.trans (hb'.mono BW.out.size), (show Aside _ from fun j z hj hz => ?_)⟩
          by_cases e : j = kk
          · subst e
            have := HX.out
            rw [this] at hz
            injection hz with hz
            rw [← hz]; exact HQ.out
          · exact AA.out j z (by omega) hz
    · have hltz : ¬ (kk : Int) < (n : Int) := by omega
      have : kk = n := by omega
      subst this
      go_wp2
      go_ret
      refine ⟨?_, BW.out⟩
      rw [idxP_miss p xs (fun j y hj hy => AA.out j y (by have := hs.len; omega) hy)]; rfl

theorem containsInt (p : Int → Bool) (g : Nat) (lb : Array Value) (eg : ∀ args w, (callFunc g args).run Tryz.prog w = .ok (.enter g args) w) (A : Option Addr) (n c : Nat) (xs : List Int) (w : World) (ok : Int → Prop) (hok : ∀ x ∈ xs, ok x)
    (hp : Pred Tryz.prog g lb (fun x => .int .i64 x) ok p w) (hs : Sl w 1 eI A n c xs) :
    Calls Tryz.prog 126 #[.slice A n c, .func (.func g) #[] lb] w fun e w' => .returned (.bool (xs.any p)) = e ∧ Below w.heap.size w w' := by
  rw [← idxP_nonneg p xs]
  have hcall : ∀ W : World, W = w → Calls Tryz.prog 146 #[.slice A n c, .func (.func g) #[] lb] W fun e w' => .returned (.int .i64 (idxP p xs)) = e ∧ Below W.heap.size W w' := by
    rintro W rfl
    exact indexInt p g lb eg A n c xs _ ok hok hp hs
  have hc := hcall w rfl
  clear hcall hp hs
  generalize idxP p xs = i at hc ⊢
  go_enter Tryz.func126, Tryz.ntmps126
  go_wp2_with fail
  refine hc.mono ?_
  rintro e w' ⟨rfl, hb⟩
  go_wp2
  go_ret
  exact ⟨rfl, hb⟩
end Go.Proofs.YtckgdlgdipfgmaaGreat

namespace Go.Proofs.YtckgdlgdipfgmaaGreat
set_option linter.unusedVariables false
set_option linter.unusedSimpArgs false
open Go.RowKit Go.Shelf

def sizedOk (kind size : Int) : Bool := (kind == 1 && size == 1) || ((kind == 2 || kind == 3) && inB size 1 4)
def holdOk (xs : List Int) (kind size : Int) : Bool := sizedOk kind size && (decide ((xs.length : Int) ≤ size) && xs.all fun x => inB x 0 255)
theorem any_notH (p : Int → Bool) (xs : List Int) : (!xs.any fun x => !p x) = xs.all p := by
  induction xs with
  | nil => rfl
  | cons a l ih => simp [← ih]

theorem sized_any (kind size : Int) (w : World) : Calls Tryz.prog 129 #[.int .i64 kind, .int .i64 size] w fun e w' => .returned (.bool (sizedOk kind size)) = e ∧ w = w' := by
  unfold sizedOk
  by_cases h1 : kind = 1
  · subst h1
    by_cases h2 : size = 1
    · subst h2
      go_enter Tryz.func129, Tryz.ntmps129
      go_wp2
      go_ret
      exact ⟨rfl, rfl⟩
    · have h3 : (size == (1 : Int)) = false := by simpa using h2
      rw [h3]
      clear h2
      go_enter Tryz.func129, Tryz.ntmps129
      go_wp2
      go_ret
      exact ⟨by simp, rfl⟩
  · have h3 : (kind == (1 : Int)) = false := by simpa using h1
    rw [h3]
    clear h1
    have hc := fun W => in_any size 1 4 W
    generalize inB size 1 4 = v at *
    by_cases h1 : kind = 2
    · subst h1
      go_enter Tryz.func129, Tryz.ntmps129
      go_wp2_with fail
      refine (hc _).mono ?_; rintro e w' ⟨rfl, rfl⟩
      go_wp2
      go_ret
      exact ⟨by simp, rfl⟩
    · have h4 : (kind == (2 : Int)) = false := by simpa using h1
      rw [h4]
      clear h1
      by_cases h1 : kind = 3
      · subst h1
        go_enter Tryz.func129, Tryz.ntmps129
        go_wp2_with fail
        refine (hc _).mono ?_; rintro e w' ⟨rfl, rfl⟩
        go_wp2
        go_ret
        exact ⟨by simp, rfl⟩
      · have h5 : (kind == (3 : Int)) = false := by simpa using h1
        rw [h5]
        clear h1 hc
        go_enter Tryz.func129, Tryz.ntmps129
        go_wp2
        go_ret
        exact ⟨by simp, rfl⟩

theorem isValue_any (n : Int) (w : World) : Calls Tryz.prog 128 #[.int .i64 n] w fun e w' => .returned (.bool (inB n 0 255)) = e ∧ w = w' := by
  go_enter Tryz.func128, Tryz.ntmps128
  go_wp2_with (go_at_call 79; refine (in_any _ _ _ _).mono ?_; rintro e w1 ⟨rfl, rfl⟩)
  go_ret
  exact ⟨rfl, rfl⟩
theorem holdBad_any (n : Int) (w : World) : Calls Tryz.prog 130 #[.int .i64 n] w fun e w' => .returned (.bool (!inB n 0 255)) = e ∧ Below w.heap.size w w' := by
  go_enter Tryz.func130, Tryz.ntmps130
  go_wp2_with (go_at_call 128; refine (isValue_any _ _).mono ?_; rintro e w1 ⟨rfl, rfl⟩)
  go_ret
  exact ⟨rfl, Below.refl _ _⟩
theorem enters_hold (args : Array Value) (w : World) : (callFunc 130 args).run Tryz.prog w = .ok (.enter 130 args) w := enters_of Tryz.func130 (by kernel_rfl) rfl args w

theorem holdValid_any (A : Option Addr) (n c : Nat) (xs : List Int) (kind size : Int) (w : World) (hs : Sl w 1 eI A n c xs) :
    Calls Tryz.prog 101 #[.agg #[.slice A n c], .int .i64 kind, .int .i64 size] w fun e w' => .returned (.bool (holdOk xs kind size)) = e ∧ Below w.heap.size w w' := by
  have hl := hs.len
  have hle := hs.le
  have hmax := hs.max
  have hB1 := (Below.refl w.heap.size w).alloc (Nat.le_refl _) (.cells #[.slice A n c] 80)
  unfold holdOk
  rw [hl, ← any_notH]
  have hc1 := fun W => sized_any kind size W
  have hc2 := containsInt (fun x => !inB x 0 255) _ #[] enters_hold A n c xs _ (fun _ => True) (fun _ _ => trivial) (fun W x _ _ => holdBad_any x W) (hs.below hB1)
  generalize sizedOk kind size = v1 at *
  generalize (xs.any fun x => !inB x 0 255) = v2 at *
  clear hs hl
  cases v1
  · clear hc2
    go_enter Tryz.func101, Tryz.ntmps101
    go_wp2_with fail
    refine (hc1 _).mono ?_; rintro e w' ⟨rfl, rfl⟩
    go_wp2
    go_ret
    exact ⟨rfl, hB1⟩
  · by_cases h : (n : Int) ≤ size
    · go_enter Tryz.func101, Tryz.ntmps101
      go_wp2_with fail
      refine (hc1 _).mono ?_; rintro e w' ⟨rfl, rfl⟩
      go_wp2_with fail
      refine hc2.mono ?_; rintro e w2 ⟨rfl, hb2⟩
      go_wp2
      go_ret
      exact ⟨by rw [decide_eq_true h]; cases v2 <;> rfl, thn hB1 hb2⟩
    · clear hc2
      have h' : decide ((n : Int) ≤ size) = false := by simpa using h
      go_enter Tryz.func101, Tryz.ntmps101
      go_wp2_with fail
      refine (hc1 _).mono ?_; rintro e w' ⟨rfl, rfl⟩
      go_wp2
      go_ret
      exact ⟨by rw [h']; rfl, hB1⟩

theorem specHoldValid_any (A : Option Addr) (n c : Nat) (xs : List Int) (kind size : Int) (w : World) (hs : Sl w 1 eI A n c xs) :
    Calls Tryz.prog 70 #[.agg #[.slice A n c], .int .i64 kind, .int .i64 size] w fun e w' => .returned (.bool (holdOk xs kind size)) = e ∧ Below w.heap.size w w' := by
  have hle := hs.le
  have hmax := hs.max
  have hB1 := (Below.refl w.heap.size w).alloc (Nat.le_refl _) (.cells #[.slice A n c] 80)
  go_enter Tryz.func70, Tryz.ntmps70
  go_wp2
  go_loopg [7] n (fun gg s3 wr => ∃ kk : Nat, kk ≤ n ∧ n - kk ≤ gg ∧ s3 = .int .i64 kk ∧ Aside (w.alloc (.cells #[.slice A n c] 80) = wr) ∧ Aside (∀ j y, j < kk → xs[j]? = some y → (fun x => inB x 0 255) y = true))
  case atStart => exact ⟨0, Nat.zero_le _, by omega, rfl, (show Aside _ from rfl), fun j _ hj => absurd hj (Nat.not_lt_zero _)⟩
  case round =>
    obtain ⟨kk, hkk, hg, rfl, BW, AA⟩ := hrel
    have hw := BW.out
    clear BW
    subst hw
    have BW : Aside (Below w.heap.size w (w.alloc (.cells #[.slice A n c] 80))) := hB1
    clear hB1
    by_cases hlt : kk < n
    · have hltz : (kk : Int) < (n : Int) := by omega
      obtain ⟨b, o, rfl, hb, hc⟩ := hs.cells (by omega)
      have hlx : kk < xs.length := by have := hs.len; omega
      have hx : xs[kk]? = some xs[kk] := List.getElem?_eq_getElem hlx
      have hc0 := (BW.out.cell (p := ⟨b, o + kk * 1 + 0, none⟩) hb).trans (hc kk _ hx 0 _ rfl)
      clear hc
      have HX := Lib.hid hx
      clear hx
      generalize xs[kk] = y at hc0 HX
      simp only [eI, Nat.add_zero, Nat.mul_one] at hc0
      have hc1 := fun W => l1In_any y 0 255 W
      cases hq : inB y 0 255
      all_goals
        simp only [hq] at hc1
        have HQ := Lib.hid hq
        clear hq
        go_wp2_with fail
        refine (hc1 _).mono ?_
        rintro e w' ⟨rfl, rfl⟩
        go_wp2
      · go_ret
        exact ⟨by rw [holdOk, all_fails HX.out HQ.out, Bool.and_false, Bool.and_false]; rfl, BW.out⟩
      · go_roundg (n - (kk + 1))
        case measure => omega
        case rel => exact ⟨kk + 1, by omega, by omega, by go_num, (show Aside _ from rfl), (show Aside _ from all_step AA.out HX.out HQ.out)⟩
    · have hltz : ¬ (kk : Int) < (n : Int) := by omega
      obtain rfl : kk = n := by omega
      have hl := Lib.hid hs.len
      have hc1 := fun W => l1In_any kind 1 3 W
      have hc2 := fun W => l1In_any size 1 4 W
      have hq := Lib.hid (show holdOk xs kind size = (inB kind 1 3 && (inB size 1 4 && ((!(kind == 1) || size == 1) && decide ((kk : Int) ≤ size)))) by
        rw [holdOk, all_holds hl.out AA.out, hl.out, Bool.and_true, Bool.eq_iff_iff]
        simp only [sizedOk, Bool.and_eq_true, Bool.or_eq_true, beq_iff_eq, inB_true, Bool.not_eq_true', decide_eq_true_eq, beq_eq_false_iff_ne]
        omega)
      generalize inB kind 1 3 = v1 at *
      generalize inB size 1 4 = v2 at *
      cases v1
      · go_wp2_with fail
        refine (hc1 _).mono ?_; rintro e w' ⟨rfl, rfl⟩
        go_wp2
        go_ret
        exact ⟨by rw [hq.out]; rfl, BW.out⟩
      · cases v2
        · go_wp2_with fail
          refine (hc1 _).mono ?_; rintro e w' ⟨rfl, rfl⟩
          go_wp2_with fail
          refine (hc2 _).mono ?_; rintro e w' ⟨rfl, rfl⟩
          go_wp2
          go_ret
          exact ⟨by rw [hq.out]; rfl, BW.out⟩
        · by_cases h1 : kind = 1
          · subst h1
            by_cases h2 : size = 1
            · subst h2
              go_wp2_with fail
              refine (hc1 _).mono ?_; rintro e w' ⟨rfl, rfl⟩
              go_wp2_with fail
              refine (hc2 _).mono ?_; rintro e w' ⟨rfl, rfl⟩
              go_wp2
              go_ret
              exact ⟨by rw [hq.out]; simp, BW.out⟩
            · have h3 : (size == (1 : Int)) = false := by simpa using h2
              go_wp2_with fail
              refine (hc1 _).mono ?_; rintro e w' ⟨rfl, rfl⟩
              go_wp2_with fail
              refine (hc2 _).mono ?_; rintro e w' ⟨rfl, rfl⟩
              go_wp2
              go_ret
              exact ⟨by rw [hq.out]; simp [h2], BW.out⟩
          · have h3 : (kind == (1 : Int)) = false := by simpa using h1
            have h4 : (kind != (1 : Int)) = true := by simpa using h1
            go_wp2_with fail
            refine (hc1 _).mono ?_; rintro e w' ⟨rfl, rfl⟩
            go_wp2_with fail
            refine (hc2 _).mono ?_; rintro e w' ⟨rfl, rfl⟩
            go_wp2
            go_ret
            exact ⟨by rw [hq.out]; simp [h1], BW.out⟩
end Go.Proofs.YtckgdlgdipfgmaaGreat
