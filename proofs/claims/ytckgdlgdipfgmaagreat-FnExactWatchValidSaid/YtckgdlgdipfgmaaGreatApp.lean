/- Append onto a list of the call's own; words for such lists. -/
import Derived.Test.YtckgdlgdipfgmaaGreatSel
import Derived.Laws.OwnMore
import Derived.Laws.AppendOwnNone
import Derived.OwnWalk
import Derived.Laws.MakeOwn
namespace Go.Proofs.YtckgdlgdipfgmaaGreat
set_option linter.unusedVariables false
set_option linter.unusedSimpArgs false
open Go.RowKit

/-- A slice value of the call's own, from block base on, that reads as the list xs. -/
def Own {α : Type} (w : World) (base E k : Nat) (enc : α → List Value) (v : Value) (xs : List α) : Prop := w.ownsRow base E k v xs.length (xs.flatMap enc)

/-- What is asked of a slice type T over elements of type E. -/
structure AppT (P : Program) (T E k bytes : Nat) : Prop where
  under : P.underlying T = some (.slice E)
  info : ∃ i z, P.info? E = some i ∧ i.zero = some z ∧ i.size = k ∧ i.bytes = bytes ∧ z.cells.size = k
  pos : 0 < k
  small : bytes ≤ 1000
theorem AppT.mk' {P : Program} {T E k bytes : Nat} {z : Value} (h1 : P.underlying T = some (.slice E)) (h2 : (P.info? E).map (fun i => (i.zero, i.size, i.bytes)) = some (some z, k, bytes)) (h3 : z.cells.size = k) (h4 : 0 < k) (h5 : bytes ≤ 1000) : AppT P T E k bytes := by
  obtain ⟨i, h⟩ := info_parts h2
  exact ⟨h1, ⟨i, z, h.1, h.2.1, h.2.2.1, h.2.2.2, h3⟩, h4, h5⟩

/-- What is asked of an encoding. -/
structure Enc {α : Type} (enc : α → List Value) (k : Nat) : Prop where
  len : ∀ x, (enc x).length = k
  one : ∀ x, ∀ u ∈ enc x, u.oneCell' = true

theorem encI : Enc eI 1 := ⟨fun _ => rfl, fun x u h => by simp [eI] at h; subst h; rfl⟩
theorem encS : Enc eS 2 := ⟨fun _ => rfl, fun x u h => by simp [eS] at h; rcases h with rfl | rfl <;> rfl⟩
theorem encO : Enc eO 3 := ⟨fun _ => rfl, fun x u h => by simp [eO] at h; rcases h with rfl | rfl | rfl <;> rfl⟩
theorem encC : Enc eC 4 := ⟨fun _ => rfl, fun x u h => by simp [eC] at h; rcases h with rfl | rfl | rfl | rfl <;> rfl⟩
theorem encH : Enc eH 2 := ⟨fun _ => rfl, fun x u h => by simp [eH] at h; rcases h with rfl | rfl <;> rfl⟩

section
variable {α : Type} {w w' : World} {base E k T : Nat} {enc : α → List Value} {v : Value} {xs : List α}
theorem Own.nil : Own w base E k enc (.slice none 0 0) ([] : List α) := World.ownsRow_nil _ _ _ _
theorem Own.lt (h : Own w base E k enc v xs) : ∀ g, v.ownBlock = some g → base ≤ g ∧ g < w.heap.size := World.ownsRow.lt h
theorem Own.kept {row : Option Nat} (h : Own w base E k enc v xs) (hg : w.grownBy w' row) (hne : v.ownBlock = none ∨ v.ownBlock ≠ row) : Own w' base E k enc v xs := World.ownsRow.kept h hg hne
theorem Own.alloc (h : Own w base E k enc v xs) (o : Obj) : Own (w.alloc o) base E k enc v xs := World.ownsRow.alloc h o
theorem Own.drew (h : Own w base E k enc v xs) : Own w.drew base E k enc v xs := h
theorem Own.drewN (h : Own w base E k enc v xs) (n : Nat) : Own (w.drewN n) base E k enc v xs := h
theorem Own.stp {r : Nat} {b : Int} (h : Own w base E k enc v xs) (hs : Stp r T w b w') (hr : r < base) : Own w' base E k enc v xs :=
  h.kept hs.grown (.inr fun e => by have := h.lt r e; omega)
theorem Own.stpOf {w0 : World} {r : Nat} {b : Int} (_ : Own w0 base E k enc v xs) (hs : Stp r T w b w') (h : Own w base E k enc v xs) (hr : r < base) : Own w' base E k enc v xs := h.stp hs hr
theorem Own.below (h : Own w base E k enc v xs) (hb : Below w.heap.size w w') : Own w' base E k enc v xs := by
  refine h.kept (row := none) ⟨hb.os, hb.tape, hb.output, hb.size, fun i hi _ => hb.block i hi⟩ ?_
  cases hv : v.ownBlock <;> simp
theorem Own.of_blk {g : Nat} (h : Blk w g E (xs.flatMap enc).toArray) (hb : base ≤ g) (hk : Enc enc k) (hm : xs.length ≤ maxLen) : Own w base E k enc (.slice (some ⟨g, 0, none⟩) xs.length xs.length) xs :=
  ⟨flatMap_len hk.len xs, .inr ⟨g, xs.length, _, rfl, hb, h, Nat.le_refl _, hm, by simp [flatMap_len hk.len xs], by rw [← flatMap_len hk.len xs]; exact List.take_of_length_le (Nat.le_refl _)⟩⟩
/-- Its slice value. -/
theorem Own.sl (hk : Enc enc k) (h : Own w base E k enc v xs) : ∃ A c, v = .slice A xs.length c ∧ ((A = none → c = 0) ∧ ∀ ad, A = some ad → ad.spot = none) ∧ Sl w k enc A xs.length c xs ∧ ∀ b o, A = some ⟨b, o, none⟩ → base ≤ b ∧ b < w.heap.size := by
  obtain ⟨A, c, hv, hs, hA⟩ := Sl.of_own hk.len h rfl
  refine ⟨A, c, hv, ⟨fun e => ?_, fun ad e => ?_⟩, hs, hA⟩
  all_goals rcases h.2 with ⟨h1, _⟩ | ⟨g, cap, cur, h1, _⟩
  · rw [h1] at hv; injection hv with _ _ h3; exact h3.symm
  · rw [h1, e] at hv; injection hv with h2 _; cases h2
  · rw [h1, e] at hv; injection hv with h2 _; cases h2
  · rw [h1, e] at hv; injection hv with h2 _; injection h2 with h2; rw [← h2]
theorem Sl.of_blk {g : Nat} (h : Blk w g E (xs.flatMap enc).toArray) (hk : Enc enc k) (hm : xs.length ≤ 9223372036854775807) : Sl w k enc (some ⟨g, 0, none⟩) xs.length xs.length xs :=
  ⟨rfl, Nat.le_refl _, hm, fun _ => ⟨g, 0, rfl, h.lt, fun j x hj i u hu => by
    have h1 := flatMap_get hk.len xs j x i u hj hu
    rw [Nat.zero_add, h.cell]
    simpa using h1⟩⟩
end

/-- append(out, src...): out a list of the call's own, src any list that can be read. -/
theorem app_wp {P : Program} {w : World} {o : Oper} {a : Act} {K : Act → World → Prop} {Q : Exit → Act → World → Prop} (s x : Operand) {T E k bytes : Nat} (hT : AppT P T E k bytes)
    (ho : o.op = .call { callee := .builtin .append, args := #[s, x], argTypes := #[T, T] }) {α : Type} {enc : α → List Value} (hk : Enc enc k) (base : Nat) (v : Value) (xs : List α) (hs : a.eval s = v) (hown : Own w base E k enc v xs)
    (A : Option Addr) (m c : Nat) (ys : List α) (hx : a.eval x = .slice A m c) (hA : A = none → c = 0) (hsrc : Sl w k enc A m c ys)
    (hlen : xs.length + m ≤ 100000000) (hbase : base ≤ w.heap.size)
    (h : ∀ v' w', Own w' base E k enc v' (xs ++ ys) → w.grownBy w' v.ownBlock → K (a.put o.dst v') w') : o.wp P a w K Q := by
  obtain ⟨i, z, hi, hz, hsz, hby, hzs⟩ := hT.info
  have hyl := hsrc.len
  have hbytes : (xs.length + m) * bytes ≤ 140737488355328 := Nat.le_trans (Nat.mul_le_mul hlen hT.small) (by decide)
  cases A with
  | none =>
    have hc : c = 0 := hA rfl
    have hm : m = 0 := by have := hsrc.le; omega
    subst hc hm
    obtain rfl : ys = [] := List.eq_nil_of_length_eq_zero hyl
    have hrun := run_append_owned_none (P := P) (w := w) base T o.type E i k hT.under hi v xs.length _ hown
    unfold Oper.wp
    simp [execOp, ho, resolve, invoke, builtin, hs, hx, hrun, Result.andThen]
    exact h v w (by simpa using hown) (World.grownBy.refl _ _)
  | some ad =>
    refine wp_append_own _ s x T ho base E i z k bytes hT.under hi hz hsz hby hzs hT.pos v xs.length _ hs hown ad m c (ys.flatMap enc) hx (by rw [flatMap_len hk.len, hyl]) ?_ ?_ (by unfold maxLen; omega) hbytes hbase ?_
    · intro j u hu
      by_cases hm : 0 < m
      · obtain ⟨b, off, e, hb, hc⟩ := hsrc.cells hm
        injection e with e
        subst e
        have hj : j < (ys.flatMap enc).length := (List.getElem?_eq_some_iff.1 hu).1
        rw [flatMap_len hk.len] at hj
        have hq : j / k < ys.length := (Nat.div_lt_iff_lt_mul hT.pos).2 hj
        have hr := Nat.mod_lt j hT.pos
        have hd : j / k * k + j % k = j := Nat.div_add_mod' j k
        have hy : ys[j / k]? = some ys[j / k] := List.getElem?_eq_getElem hq
        have he : (enc ys[j / k])[j % k]? = some ((enc ys[j / k])[j % k]'(by rw [hk.len]; exact hr)) := List.getElem?_eq_getElem _
        have h1 := flatMap_get hk.len ys _ _ _ _ hy he
        rw [hd, hu] at h1
        injection h1 with h1
        subst h1
        have h2 := hc _ _ hy _ _ he
        rw [show (⟨b, off, none⟩ : Addr).add j = ⟨b, off + j / k * k + j % k, none⟩ by rw [Addr.add_lit]; congr 1; omega]
        exact h2
      · obtain rfl : ys = [] := List.eq_nil_of_length_eq_zero (by omega)
        simp at hu
    · intro u hu
      obtain ⟨y, _, hy⟩ := List.mem_flatMap.1 hu
      exact hk.one y u hy
    · intro v' w' hown' hg _
      refine h v' w' ?_ hg
      unfold Own
      rw [List.flatMap_append, List.length_append, hyl]
      exact hown'
theorem app_own {P : Program} {w : World} {ops : Array Oper} {rest : List Oper} {o : Oper} {a : Act} {Q : Exit → Act → World → Prop} (hgd : Region.wanted o (yielded ops a.tmps) = true) (s x : Operand) {T E k bytes : Nat} (hT : AppT P T E k bytes)
    (ho : o.op = .call { callee := .builtin .append, args := #[s, x], argTypes := #[T, T] }) {α : Type} {enc : α → List Value} (hk : Enc enc k) (base : Nat) (v : Value) (xs : List α) (hs : a.eval s = v) (hown : Own w base E k enc v xs)
    (A : Option Addr) (m c : Nat) (ys : List α) (hx : a.eval x = .slice A m c) (hA : A = none → c = 0) (hsrc : Sl w k enc A m c ys)
    (hlen : xs.length + m ≤ 100000000) (hbase : base ≤ w.heap.size)
    (h : ∀ v' w', Own w' base E k enc v' (xs ++ ys) → w.grownBy w' v.ownBlock → wpList P ops Q rest (a.put o.dst v') w') : wpList P ops Q (o :: rest) a w := by
  refine wpList_step fun K hK => ?_
  simp only [hgd, if_true]
  exact app_wp s x hT ho hk base v xs hs hown A m c ys hx hA hsrc hlen hbase fun v' w' h1 h2 => hK _ _ (h v' w' h1 h2)
/-- The same at a step of a region that draws its order. -/
theorem app_step {P : Program} {w : World} {ops : Array Oper} {o : Oper} {a : Act} {K : Act → World → Prop} {Q : Exit → Act → World → Prop} {E' : Prop} (hgd : Region.wanted o (yielded ops a.tmps) = true) (s x : Operand) {T E k bytes : Nat} (hT : AppT P T E k bytes)
    (ho : o.op = .call { callee := .builtin .append, args := #[s, x], argTypes := #[T, T] }) {α : Type} {enc : α → List Value} (hk : Enc enc k) (base : Nat) (v : Value) (xs : List α) (hs : a.eval s = v) (hown : Own w base E k enc v xs)
    (A : Option Addr) (m c : Nat) (ys : List α) (hx : a.eval x = .slice A m c) (hA : A = none → c = 0) (hsrc : Sl w k enc A m c ys)
    (hlen : xs.length + m ≤ 100000000) (hbase : base ≤ w.heap.size)
    (h : ∀ v' w', Own w' base E k enc v' (xs ++ ys) → w.grownBy w' v.ownBlock → K (a.put o.dst v') w') : if Region.wanted o (yielded ops a.tmps) = true then Oper.wp P o a w K Q else E' := by
  rw [if_pos hgd]
  exact app_wp s x hT ho hk base v xs hs hown A m c ys hx hA hsrc hlen hbase h

section
variable {α : Type} {w w' a : World} {base E k T : Nat} {enc : α → List Value} {v : Value} {xs : List α}
/-- What an append does to the rest. -/
theorem Stp.app {r : Nat} {b : Int} (hS : Stp r T a b w) (hown : Own w base E k enc v xs) (hg : w.grownBy w' v.ownBlock) (ha : a.heap.size ≤ base) (hr : r < base) : Stp r T a b w' :=
  ⟨grown_mono hS.grown hg (fun g e => .inr (by have := hown.lt g e; omega)), hS.rd.grown hg (fun g e => by have := hown.lt g e; omega)⟩
theorem belowApp {B : Nat} (hB : Below B a w) (hown : Own w base E k enc v xs) (hg : w.grownBy w' v.ownBlock) (hb : B ≤ base) (ha : B ≤ w.heap.size) : Below B a w' :=
  hB.trans ⟨hg.os, hg.tape, hg.output, hg.size, fun i hi => hg.block i (by omega) (fun e => by have := hown.lt i e.symm; omega)⟩
theorem Blk.app {g : Nat} {t : TypeId} {cs : Array Value} (h : Blk w g t cs) (hown : Own w base E k enc v xs) (hg : w.grownBy w' v.ownBlock) (hb : g < base) : Blk w' g t cs :=
  (hg.block g h.lt (fun e => by have := hown.lt g e.symm; omega)).trans h
theorem Sl.app {β : Type} {k' : Nat} {enc' : β → List Value} {A : Option Addr} {n c : Nat} {ys : List β} (h : Sl w k' enc' A n c ys) (hown : Own w base E k enc v xs) (hg : w.grownBy w' v.ownBlock) (hA : ∀ b o, A = some ⟨b, o, none⟩ → b < base) : Sl w' k' enc' A n c ys :=
  ⟨h.len, h.le, h.max, fun hn => by
    obtain ⟨b, o, rfl, hb, hc⟩ := h.cells hn
    refine ⟨b, o, rfl, Nat.lt_of_lt_of_le hb hg.size, fun j x hx i u hu => ?_⟩
    exact (World.cell?_of_block (w := w) (hg.block b hb (fun e => by have := hown.lt b e.symm; have := hA b o rfl; omega))).trans (hc j x hx i u hu)⟩
theorem Sl.stp {r : Nat} {b : Int} {A : Option Addr} {n c : Nat} (h : Sl w k enc A n c xs) (hs : Stp r T w b w') (hA : ∀ b o, A = some ⟨b, o, none⟩ → b ≠ r) : Sl w' k enc A n c xs :=
  ⟨h.len, h.le, h.max, fun hn => by
    obtain ⟨g, o, rfl, hb, hc⟩ := h.cells hn
    refine ⟨g, o, rfl, Nat.lt_of_lt_of_le hb hs.grown.size, fun j x hx i u hu => ?_⟩
    exact (World.cell?_of_block (w := w) (hs.grown.block g hb (fun e => hA g o rfl (by injection e)))).trans (hc j x hx i u hu)⟩
end
/-- Stores into a list of numbers of the call's own. -/
theorem flatMap_eI_set (xs : List Int) (j : Nat) (y : Int) : (xs.set j y).flatMap eI = (xs.flatMap eI).set j (.int .i64 y) := by
  induction xs generalizing j with
  | nil => simp
  | cons x xs ih =>
    cases j with
    | zero => simp [eI]
    | succ j => simp only [List.set_cons_succ, List.flatMap_cons, ih]; simp [eI]
theorem Own.stored {w : World} {base E g c n : Nat} {xs : List Int} (h : Own w base E 1 eI (.slice (some ⟨g, 0, none⟩) n c) xs) (j : Nat) (y : Int) :
    Own (w.setCell ⟨g, j, none⟩ (.int .i64 y)) base E 1 eI (.slice (some ⟨g, 0, none⟩) n c) (xs.set j y) ∧ w.grownBy (w.setCell ⟨g, j, none⟩ (.int .i64 y)) (some g) := by
  have hn : n = xs.length := by
    rcases h.2 with ⟨h1, _⟩ | ⟨g', cap, cur, h1, _⟩
    · cases h1
    · injection h1 with _ h2 _
  subst hn
  have := World.ownsRow.stored h j (.int .i64 y)
  unfold Own
  rw [flatMap_eI_set, List.length_set]
  exact this
theorem Own.frozenAt {α : Type} {w : World} {base E k g c n : Nat} {enc : α → List Value} {xs : List α} (h : Own w base E k enc (.slice (some ⟨g, 0, none⟩) n c) xs) (j : Nat) : w.frozen? ⟨g, j, none⟩ = false := by
  have hn : n = xs.length := by
    rcases h.2 with ⟨h1, _⟩ | ⟨g', cap, cur, h1, _⟩
    · cases h1
    · injection h1 with _ h2 _
  subst hn
  exact World.ownsRow.frozenAt h j
/-- A list of the call's own that is not empty. -/
theorem Own.form {α : Type} {w : World} {base E k : Nat} {enc : α → List Value} {v : Value} {xs : List α} (h : Own w base E k enc v xs) (hn : 0 < xs.length) : ∃ g c, v = .slice (some ⟨g, 0, none⟩) xs.length c ∧ base ≤ g ∧ g < w.heap.size ∧ xs.length ≤ c ∧ c ≤ 9223372036854775807 := by
  rcases h.2 with ⟨_, h1⟩ | ⟨g, cap, cur, rfl, hb, hg, hnc, hm, _⟩
  · omega
  · refine ⟨g, cap, rfl, hb, ?_, hnc, by simpa [maxLen] using hm⟩
    rcases Nat.lt_or_ge g w.heap.size with h1 | h1
    · exact h1
    · rw [Array.getElem?_eq_none h1] at hg; cases hg
theorem Own.cellI {w : World} {base E g c n : Nat} {xs : List Int} (h : Own w base E 1 eI (.slice (some ⟨g, 0, none⟩) n c) xs) {j : Nat} {y : Int} (hy : xs[j]? = some y) : w.cell? ⟨g, j, none⟩ = some (.int .i64 y) := by
  obtain ⟨A, c', hv, _, hs, _⟩ := h.sl encI
  injection hv with h1 h2 h3
  subst h1
  have hj : j < xs.length := (List.getElem?_eq_some_iff.1 hy).1
  obtain ⟨b, o, e, _, hc⟩ := hs.cells (by omega)
  injection e with e
  injection e with e1 e2
  subst e1 e2
  have := hc j y hy 0 _ rfl
  simpa using this

theorem Own.slI {α : Type} {w : World} {base E k g c n : Nat} {enc : α → List Value} {xs : List α} (hk : Enc enc k) (h : Own w base E k enc (.slice (some ⟨g, 0, none⟩) n c) xs) : Sl w k enc (some ⟨g, 0, none⟩) n c xs := by
  obtain ⟨A, c', hv, _, hs, _⟩ := h.sl hk
  injection hv with h1 h2 h3
  subst h1 h2 h3
  exact hs
theorem Sl.drewN {α : Type} {w : World} {k n c : Nat} {enc : α → List Value} {A : Option Addr} {xs : List α} (h : Sl w k enc A n c xs) (m : Nat) : Sl (w.drewN m) k enc A n c xs := h.keep (Nat.le_refl _) (fun _ _ _ => rfl)
/-- s[j:], as the walk spells it. -/
theorem Sl.from_ {α : Type} {w : World} {k n c : Nat} {enc : α → List Value} {A : Option Addr} {xs : List α} (h : Sl w k enc A n c xs) (j : Nat) (hj : j ≤ n) :
    Sl w k enc (if c = j then A else Option.map (fun x => x.add (j * k)) A) (n - j) (c - j) (xs.drop j) := by
  have hle := h.le
  have hmax := h.max
  refine h.drop_ j hj (by omega) (by omega) fun b o e hlt => ?_
  rw [if_neg (by omega), e]
  simp only [Option.map_some, Addr.add_lit]
theorem Sl.from1 {α : Type} {w : World} {n c : Nat} {enc : α → List Value} {A : Option Addr} {xs : List α} (h : Sl w 1 enc A n c xs) (j : Nat) (hj : j ≤ n) :
    Sl w 1 enc (if c = j then A else Option.map (fun x => x.add j) A) (n - j) (c - j) (xs.drop j) := by
  have := h.from_ j hj
  rwa [Nat.mul_one] at this
theorem belowDrewN {B : Nat} {a w : World} (h : Below B a w) (n : Nat) : Below B a (w.drewN n) := ⟨h.os, h.tape, h.output, h.size, h.block⟩
/-- What is asked of an element type's zero value. -/
structure ZeroT {α : Type} (P : Program) (T E k : Nat) (enc : α → List Value) (x0 : α) : Prop where
  under : P.underlying T = some (.slice E)
  info : ∃ i z, P.info? E = some i ∧ i.zero = some z ∧ i.size = k ∧ i.bytes ≤ 1000 ∧ z.cells.toList = enc x0
  pos : 0 < k
theorem ZeroT.mk' {α : Type} {P : Program} {T E k bytes : Nat} {enc : α → List Value} {x0 : α} {z : Value} (h1 : P.underlying T = some (.slice E)) (h2 : (P.info? E).map (fun i => (i.zero, i.size, i.bytes)) = some (some z, k, bytes)) (h3 : z.cells.toList = enc x0) (h4 : 0 < k) (h5 : bytes ≤ 1000) : ZeroT P T E k enc x0 := by
  obtain ⟨i, h⟩ := info_parts h2
  exact ⟨h1, ⟨i, z, h.1, h.2.1, h.2.2.1, by rw [h.2.2.2]; exact h5, h3⟩, h4⟩
theorem made_rep {α : Type} {k : Nat} {enc : α → List Value} {x0 : α} {z : Array Value} (hz : z.toList = enc x0) (hk : ∀ x, (enc x).length = k) (h0 : 0 < k) (n : Nat) : (madeCells z (n * k)).toList = (List.replicate n x0).flatMap enc := by
  have hzs : z.size = k := by rw [← Array.length_toList, hz, hk]
  apply List.ext_getElem?
  intro j
  by_cases hj : j < n * k
  · have hq : j / k < n := (Nat.div_lt_iff_lt_mul h0).2 hj
    have hr := Nat.mod_lt j h0
    have hd : j / k * k + j % k = j := Nat.div_add_mod' j k
    have he : (enc x0)[j % k]? = some ((enc x0)[j % k]'(by rw [hk]; exact hr)) := List.getElem?_eq_getElem _
    have h1 := flatMap_get hk (List.replicate n x0) (j / k) x0 (j % k) _ (by rw [List.getElem?_replicate, if_pos hq]) he
    rw [hd] at h1
    rw [h1]
    simp only [madeCells, Array.toList_map, Array.toList_range, List.getElem?_map, List.getElem?_range hj, Option.map_some, Option.some.injEq, hzs]
    have hlt : j % k < z.size := by omega
    rw [getElem!_pos z (j % k) hlt]
    have h2 : z.toList[j % k]? = some z[j % k] := by rw [Array.getElem?_toList]; exact Array.getElem?_eq_getElem hlt
    rw [hz, he] at h2
    injection h2 with h2
    exact h2.symm
  · rw [List.getElem?_eq_none (by rw [Array.length_toList, size_madeCells]; omega), List.getElem?_eq_none (by rw [flatMap_len hk, List.length_replicate]; omega)]
/-- make([]T, n). -/
theorem make_own {P : Program} {w : World} {ops : Array Oper} {rest : List Oper} {o : Oper} {a : Act} {Q : Exit → Act → World → Prop} (hgd : Region.wanted o (yielded ops a.tmps) = true) (l c : Operand) {α : Type} {enc : α → List Value} {x0 : α} {T E k : Nat} (hT : ZeroT P T E k enc x0)
    (hop : o.op = Op.makeSlice T l c) (hk : Enc enc k) (base : Nat) (L C : Int) (n : Nat) (hl : a.eval l = .int .i64 L) (hc : a.eval c = .int .i64 C) (hL : L = (n : Int)) (hC : C = (n : Int)) (hn : n ≤ 100000000) (hbase : base ≤ w.heap.size)
    (h : ∀ w', Own w' base E k enc (.slice (some ⟨w.heap.size, 0, none⟩) n n) (List.replicate n x0) → w.grownBy w' none → wpList P ops Q rest (a.put o.dst (.slice (some ⟨w.heap.size, 0, none⟩) n n)) w') : wpList P ops Q (o :: rest) a w := by
  obtain ⟨i, z, hi, hz, hsz, hby, hzs⟩ := hT.info
  obtain ⟨w', hrun, r1, r2⟩ := run_make_full (P := P) w base T E i z k hT.under hi hz hsz .i64 .i64 n (Nat.le_trans (Nat.mul_le_mul hby hn) (by decide)) (by unfold maxLen; omega) hbase
  subst hL hC
  refine wpList_step fun K hK => ?_
  simp only [hgd, if_true]
  unfold Oper.wp
  simp [execOp, hop, hl, hc, hrun, Result.andThen]
  refine hK _ _ (h w' ?_ r2)
  unfold Own
  rw [List.length_replicate, ← made_rep hzs hk.len hT.pos]
  exact r1
theorem Stp.none {r T : Nat} {a w w' : World} {b : Int} (hS : Stp r T a b w) (hg : w.grownBy w' Option.none) : Stp r T a b w' :=
  ⟨grown_mono hS.grown hg (fun g e => by cases e), hS.rd.grown hg (fun g e => by cases e)⟩
theorem below_of_grown {w w' : World} (hg : w.grownBy w' Option.none) : Below w.heap.size w w' := ⟨hg.os, hg.tape, hg.output, hg.size, fun i hi => hg.block i hi (fun e => by cases e)⟩
theorem flatMap_set {α : Type} {k : Nat} {enc : α → List Value} (hk : ∀ x, (enc x).length = k) : ∀ (xs : List α) (j i : Nat) (x y : α) (u : Value), xs[j]? = some x → i < k → enc y = (enc x).set i u → (xs.set j y).flatMap enc = (xs.flatMap enc).set (j * k + i) u
  | [], j, i, x, y, u, hx, _, _ => by simp at hx
  | a :: xs, 0, i, x, y, u, hx, hi, hy => by
    have : a = x := by simpa using hx
    subst this
    simp only [List.set_cons_zero, List.flatMap_cons, Nat.zero_mul, Nat.zero_add, hy]
    rw [List.set_append_left _ _ (by rw [hk]; exact hi)]
  | a :: xs, j + 1, i, x, y, u, hx, hi, hy => by
    have ih := flatMap_set hk xs j i x y u (by simpa using hx) hi hy
    simp only [List.set_cons_succ, List.flatMap_cons, ih]
    rw [List.set_append_right _ _ (by rw [hk a, Nat.add_mul]; omega), hk a, show (j + 1) * k + i - k = j * k + i by rw [Nat.add_mul]; omega]
/-- A store into a field of an element of a list of the call's own. -/
theorem Own.storedF {α : Type} {w : World} {base E k g c n : Nat} {enc : α → List Value} {xs : List α} (hk : Enc enc k) (h : Own w base E k enc (.slice (some ⟨g, 0, none⟩) n c) xs) (off j i : Nat) (x y : α) (u : Value) (hx : xs[j]? = some x) (hi : i < k) (hoff : off = j * k + i) (hy : enc y = (enc x).set i u) :
    Own (w.setCell ⟨g, off, none⟩ u) base E k enc (.slice (some ⟨g, 0, none⟩) n c) (xs.set j y) ∧ w.grownBy (w.setCell ⟨g, off, none⟩ u) (some g) := by
  subst hoff
  have hn : n = xs.length := by
    rcases h.2 with ⟨h1, _⟩ | ⟨g', cap, cur, h1, _⟩
    · cases h1
    · injection h1 with _ h2 _
  subst hn
  have := World.ownsRow.stored h (j * k + i) u
  unfold Own
  rw [flatMap_set hk.len xs j i x y u hx hi hy, List.length_set]
  exact this
theorem Own.cellF {α : Type} {w : World} {base E k g c n : Nat} {enc : α → List Value} {xs : List α} (hk : Enc enc k) (h : Own w base E k enc (.slice (some ⟨g, 0, none⟩) n c) xs) (off j i : Nat) (x : α) (u : Value) (hx : xs[j]? = some x) (hu : (enc x)[i]? = some u) (hoff : off = j * k + i) : w.cell? ⟨g, off, none⟩ = some u := by
  subst hoff
  have hj : j < xs.length := (List.getElem?_eq_some_iff.1 hx).1
  have hs := h.slI hk
  obtain ⟨b, o, e, _, hc⟩ := hs.cells (by have := hs.len; omega)
  injection e with e
  injection e with e1 e2
  subst e1 e2
  have := hc j x hx i u hu
  simpa using this
theorem Own.one {α : Type} {w : World} {base E k : Nat} {enc : α → List Value} {v : Value} {xs : List α} (h : Own w base E k enc v xs) : v.oneCell' = true := by
  rcases h.2 with ⟨rfl, _⟩ | ⟨g, cap, cur, rfl, _⟩ <;> rfl
theorem Own.far {α : Type} {w : World} {base E k : Nat} {enc : α → List Value} {v : Value} {xs : List α} (h : Own w base E k enc v xs) {p : Addr} (hp : p.block < base) (u : Value) : Own (w.setCell p u) base E k enc v xs :=
  h.kept (row := some p.block) (grown_setCell (World.grownBy.refl _ _) (.inl rfl) u) (.inr fun e => by have := h.lt p.block e; omega)
/-- A slice result: its value and what it reads as. -/
structure SV (α : Type) where
  A : Option Addr
  n : Nat
  c : Nat
  xs : List α
def SV.v {α : Type} (s : SV α) : Value := .slice s.A s.n s.c
/-- It reads as its list, in blocks from base on. -/
structure SV.ok {α : Type} (w : World) (base k : Nat) (enc : α → List Value) (s : SV α) : Prop where
  sl : Sl w k enc s.A s.n s.c s.xs
  fresh : ∀ b o, s.A = some ⟨b, o, none⟩ → base ≤ b
  nil : s.A = none → s.c = 0
  spot : ∀ ad, s.A = some ad → ad.spot = none
/-- A list of the call's own whose value is written out. -/
theorem Own.okv {α : Type} {w : World} {base E k n c : Nat} {enc : α → List Value} {A : Option Addr} {xs : List α} (hk : Enc enc k) (h : Own w base E k enc (.slice A n c) xs) : SV.ok w base k enc ⟨A, n, c, xs⟩ := by
  obtain ⟨A', c', hv, hA, hs, hf⟩ := h.sl hk
  injection hv with h1 h2 h3
  subst h1 h2 h3
  exact ⟨hs, fun b o e => (hf b o e).1, hA.1, hA.2⟩
theorem Own.len {α : Type} {w : World} {base E k n c : Nat} {enc : α → List Value} {A : Option Addr} {xs : List α} (h : Own w base E k enc (.slice A n c) xs) : n = xs.length := by
  rcases h.2 with ⟨h1, h2⟩ | ⟨g, cap, cur, h1, _⟩
  · injection h1 with _ h3 _; rw [h3, ← h2]
  · injection h1 with _ h3 _
theorem SV.ok.mono {α : Type} {w : World} {base base' k : Nat} {enc : α → List Value} {s : SV α} (h : SV.ok w base k enc s) (hb : base' ≤ base) : SV.ok w base' k enc s := ⟨h.sl, fun b o e => Nat.le_trans hb (h.fresh b o e), h.nil, h.spot⟩
end Go.Proofs.YtckgdlgdipfgmaaGreat
