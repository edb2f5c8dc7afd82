/- Slices that may be written: what marking does to them. -/
import Derived.Test.YtckgdlgdipfgmaaGreatAppT
import Derived.Test.YtckgdlgdipfgmaaGreatOwnX
import Derived.Test.YtckgdlgdipfgmaaGreatList
namespace Go.Proofs.YtckgdlgdipfgmaaGreat
set_option linter.unusedVariables false
set_option linter.unusedSimpArgs false
open Go.RowKit

/-- A slice of the call's own whose cells may be written. -/
structure WS {α : Type} (w : World) (base E k : Nat) (enc : α → List Value) (s : SV α) : Prop where
  ok : SV.ok w base k enc s
  wr : 0 < s.n → ∃ g o cs, s.A = some ⟨g, o, none⟩ ∧ Blk w g E cs ∧ o + s.n * k ≤ cs.size
section
variable {α : Type} {w w' : World} {base base' E k : Nat} {enc : α → List Value} {s : SV α}
theorem WS.below (h : WS w base E k enc s) (hb : Below w.heap.size w w') : WS w' base E k enc s :=
  ⟨⟨h.ok.sl.below hb, h.ok.fresh, h.ok.nil, h.ok.spot⟩, fun hn => by
    obtain ⟨g, o, cs, e, B, hc⟩ := h.wr hn
    exact ⟨g, o, cs, e, B.below hb, hc⟩⟩
theorem WS.mono (h : WS w base E k enc s) (hb : base' ≤ base) : WS w base' E k enc s := ⟨h.ok.mono hb, h.wr⟩
theorem WS.set (h : WS w base E k enc s) {g i : Nat} (hg : g < base) (u : Value) : WS (w.setCell ⟨g, i, none⟩ u) base E k enc s :=
  ⟨⟨h.ok.sl.keep (by simp [World.setCell]) (fun b o e => Below.heap_setCell _ _ _ _ (by have := h.ok.fresh b o e; simp only []; omega)), h.ok.fresh, h.ok.nil, h.ok.spot⟩, fun hn => by
    obtain ⟨b, o, cs, e, B, hc⟩ := h.wr hn
    exact ⟨b, o, cs, e, B.far (by have := h.ok.fresh b o e; simp only []; omega) _, hc⟩⟩
theorem WS.nilS : WS w base E k enc ⟨none, 0, 0, ([] : List α)⟩ := ⟨⟨⟨rfl, Nat.le_refl _, by simp, fun h => absurd h (Nat.lt_irrefl _)⟩, (fun b o e => by cases e), (fun _ => rfl), (fun _ e => by cases e)⟩, fun h => absurd h (Nat.lt_irrefl _)⟩
theorem Own.ws {n c c' : Nat} {A : Option Addr} {xs : List α} (hk : Enc enc k) (h : Own w base E k enc (.slice A n c) xs) (hc : n ≤ c' ∧ c' ≤ c) : WS w base E k enc ⟨A, n, c', xs⟩ := by
  have hok := h.okv hk
  refine ⟨⟨⟨hok.sl.len, hc.1, Nat.le_trans hc.2 hok.sl.max, hok.sl.cells⟩, hok.fresh, fun e => ?_, hok.spot⟩, fun hn => ?_⟩
  · have := hok.nil e
    simp only [] at this ⊢
    omega
  · rcases h.2 with ⟨h1, h2⟩ | ⟨g, cap, cur, h1, hb, hg, hnc, hm, hs, ht⟩
    · injection h1 with _ h3 _
      subst h3
      exact absurd hn (Nat.lt_irrefl _)
    · injection h1 with h3 h4 h5
      subst h3 h5
      refine ⟨g, 0, cur, rfl, hg, ?_⟩
      rw [hs, Nat.zero_add]
      exact Nat.mul_le_mul_right _ (by have := hok.sl.le; simp only [] at this ⊢; omega)
theorem WS.of_blk {g : Nat} {xs : List α} (h : Blk w g E (xs.flatMap enc).toArray) (hb : base ≤ g) (hk : Enc enc k) (hm : xs.length ≤ 9223372036854775807) : WS w base E k enc ⟨some ⟨g, 0, none⟩, xs.length, xs.length, xs⟩ :=
  ⟨⟨Sl.of_blk h hk hm, (fun b o e => by injection e with e; injection e with e1 _; omega), (fun e => by cases e), (fun ad e => by injection e with e; rw [← e])⟩, fun _ => ⟨g, 0, _, rfl, h, by simp [flatMap_len hk.len]⟩⟩
/-- The block of a slice. -/
def SV.row (s : SV α) : Option Nat := if 0 < s.n then s.A.map (·.block) else none
/-- It is no block of another type. -/
theorem WS.rowNe {g t : Nat} {cs : Array Value} (h : WS w base E k enc s) (hB : Blk w g t cs) (ht : t ≠ E) : s.row ≠ some g := by
  unfold SV.row
  split
  · rename_i hn
    obtain ⟨b, o, cur, e, B, hc⟩ := h.wr hn
    rw [e]
    intro e'
    have e2 : b = g := by injection e'
    subst e2
    unfold Blk at B hB
    rw [B] at hB
    injection hB with hB
    injection hB with _ h3 _
    exact ht h3.symm
  · intro e; cases e
theorem WS.rowGe {g : Nat} (h : WS w base E k enc s) (e : s.row = some g) : base ≤ g ∧ g < w.heap.size := by
  unfold SV.row at e
  split at e
  · rename_i hn
    obtain ⟨b, o, cur, e2, B, hc⟩ := h.wr hn
    rw [e2] at e
    have e3 : b = g := by injection e
    subst e3
    exact ⟨h.ok.fresh b o e2, B.lt⟩
  · cases e
/-- A slice in another block is not touched by what turns one block alone. -/
theorem Sl.other {A : Option Addr} {n c : Nat} {xs : List α} {row : Option Nat} (h : Sl w k enc A n c xs) (hg : w.grownBy w' row) (hne : ∀ b o, A = some ⟨b, o, none⟩ → row ≠ some b) : Sl w' k enc A n c xs :=
  ⟨h.len, h.le, h.max, fun hn => by
    obtain ⟨b, o, rfl, hb, hc⟩ := h.cells hn
    exact ⟨b, o, rfl, Nat.lt_of_lt_of_le hb hg.size, fun j x hx i u hu => (World.cell?_of_block (w := w) (hg.block b hb (fun e => hne b o rfl e.symm))).trans (hc j x hx i u hu)⟩⟩
theorem WS.other {row : Option Nat} (h : WS w base E k enc s) (hg : w.grownBy w' row) (hne : ∀ b o, s.A = some ⟨b, o, none⟩ → row ≠ some b) : WS w' base E k enc s :=
  ⟨⟨h.ok.sl.other hg hne, h.ok.fresh, h.ok.nil, h.ok.spot⟩, fun hn => by
    obtain ⟨g, o, cs, e, B, hc⟩ := h.wr hn
    exact ⟨g, o, cs, e, (hg.block g B.lt (fun e' => hne g o e e'.symm)).trans B, hc⟩⟩
theorem Blk.other {g t : Nat} {cs : Array Value} {row : Option Nat} (h : Blk w g t cs) (hg : w.grownBy w' row) (hne : row ≠ some g) : Blk w' g t cs := (hg.block g h.lt (fun e => hne e.symm)).trans h
theorem Below.other {B : Nat} {a : World} {row : Option Nat} (h : Below B a w) (hg : w.grownBy w' row) (hr : ∀ g, row = some g → B ≤ g) (hB : B ≤ w.heap.size) : Below B a w' :=
  h.trans ⟨hg.os, hg.tape, hg.output, hg.size, fun i hi => hg.block i (by omega) (fun e => by have := hr i e.symm; omega)⟩
end
/-- Marks: numbers that go on. -/
def marksI (k : Int) (n : Nat) : List Int := (List.range n).map fun (j : Nat) => k + (j : Int)
def marksS (k : Int) (n : Nat) : List (Int × Int) := (List.range n).map fun (j : Nat) => (k + 2 * (j : Int), k + 2 * (j : Int) + 1)
theorem marksI_at {k : Int} {n j : Nat} {x : Int} (h : (marksI k n)[j]? = some x) : j < n ∧ x = k + (j : Int) := by
  unfold marksI at h
  rw [List.getElem?_map] at h
  by_cases hj : j < n
  · rw [List.getElem?_range hj] at h
    simp at h
    exact ⟨hj, h.symm⟩
  · rw [List.getElem?_eq_none (by simp; omega)] at h
    cases h
theorem marksS_at {k : Int} {n j : Nat} {x : Int × Int} (h : (marksS k n)[j]? = some x) : j < n ∧ x = (k + 2 * (j : Int), k + 2 * (j : Int) + 1) := by
  unfold marksS at h
  rw [List.getElem?_map] at h
  by_cases hj : j < n
  · rw [List.getElem?_range hj] at h
    simp at h
    exact ⟨hj, h.symm⟩
  · rw [List.getElem?_eq_none (by simp; omega)] at h
    cases h

set_option maxHeartbeats 1000000 in
theorem markIntS_any (s : SV Int) (k : Int) (base : Nat) (hk : 0 ≤ k ∧ k ≤ 10000000) (hn : s.n ≤ 10000000) (w : World) (hs : WS w base 3 1 eI s) :
    Calls Tryz.prog 18 #[s.v, .int .i64 k] w fun e w' => .returned (.int .i64 (k + s.n)) = e ∧ w.grownBy w' s.row ∧ WS w' base 3 1 eI ⟨s.A, s.n, s.c, marksI k s.n⟩ := by
  obtain ⟨A, n, c, xs⟩ := s
  obtain ⟨hok, hwr⟩ := hs
  simp only [SV.v, SV.row] at hn hwr ⊢
  have hle := hok.sl.le
  have hmax := hok.sl.max
  by_cases hn0 : 0 < n
  · rw [if_pos hn0]
    obtain ⟨g, o, cs, rfl, B, hc⟩ := hwr hn0
    simp only [] at hle hmax
    go_enter Tryz.func18, Tryz.ntmps18
    go_wp2
    go_loopg [1, 5] n (fun gg s1 s5 wr => ∃ (kk : Nat) (cs' : Array Value), kk ≤ n ∧ n - kk ≤ gg ∧ s1 = .int .i64 (k + kk) ∧ s5 = .int .i64 kk ∧ Aside (w.grownBy wr (some g)) ∧ Aside (Blk wr g 3 cs') ∧ cs'.size = cs.size ∧ Aside (∀ j : Nat, j < kk → cs'[o + j]? = some (.int .i64 (k + j))))
    case atStart => exact ⟨0, cs, Nat.zero_le _, by omega, by simp, rfl, (show Aside _ from World.grownBy.refl _ _), (show Aside _ from B), rfl, (show Aside _ from fun j hj => absurd hj (Nat.not_lt_zero _))⟩
    case round =>
      obtain ⟨kk, cs', hkk, hg, rfl, rfl, GG, BB, hsz, MM⟩ := hrel
      by_cases hlt : kk < n
      · have hltz : (kk : Int) < (n : Int) := by omega
        have hb : o + kk < cs'.size := by omega
        have hcell : wr.cell? ⟨g, o + kk, none⟩ = some cs'[o + kk] := (BB.out.cell (o + kk)).trans (Array.getElem?_eq_getElem hb)
        have hfr := BB.out.frozen
        go_wp2
        go_roundg (n - (kk + 1))
        case measure => omega
        case rel => exact ⟨kk + 1, _, by omega, by omega, by go_num, by go_num, (show Aside _ from grown_setCell GG.out (.inl rfl) _), (show Aside _ from BB.out.set_ (o + kk) _), by simpa using hsz, (show Aside _ from fun j hj => by
          by_cases e : j = kk
          · subst e
            rw [Array.getElem?_setIfInBounds_self_of_lt hb]
          · rw [Array.getElem?_setIfInBounds_ne (by omega)]
            exact MM.out j (by omega))⟩
      · have hltz : ¬ (kk : Int) < (n : Int) := by omega
        obtain rfl : kk = n := by omega
        go_wp2
        go_ret
        refine ⟨rfl, GG.out, ⟨⟨⟨by simp [marksI], hle, hmax, fun _ => ⟨g, o, rfl, BB.out.lt, fun j x hx i u hu => ?_⟩⟩, hok.fresh, hok.nil, hok.spot⟩, fun _ => ⟨g, o, cs', rfl, BB.out, by simp only [] at hc ⊢; omega⟩⟩⟩
        obtain ⟨hj, rfl⟩ := marksI_at hx
        have hi : i = 0 := by
          have := (List.getElem?_eq_some_iff.1 hu).1
          simp [eI] at this
          omega
        subst hi
        injection hu with hu
        subst hu
        rw [BB.out.cell, Nat.mul_one, Nat.add_zero]
        exact MM.out j hj
  · obtain rfl : n = 0 := by omega
    rw [if_neg hn0]
    go_enter Tryz.func18, Tryz.ntmps18
    go_wp2
    go_loopg [1, 5] 0 (fun gg s1 s5 wr => ∃ kk : Nat, kk ≤ 0 ∧ s1 = .int .i64 k ∧ s5 = .int .i64 kk ∧ Aside (w = wr))
    case atStart => exact ⟨0, Nat.le_refl _, rfl, rfl, (show Aside _ from rfl)⟩
    case round =>
      obtain ⟨kk, hkk, rfl, rfl, BW⟩ := hrel
      obtain rfl : kk = 0 := by omega
      go_wp2
      go_ret
      rw [← BW.out]
      exact ⟨by simp, World.grownBy.refl _ _, ⟨⟨⟨rfl, hle, hmax, fun h => absurd h (Nat.lt_irrefl _)⟩, hok.fresh, hok.nil, hok.spot⟩, fun h => absurd h (Nat.lt_irrefl _)⟩⟩
theorem heldIntS_any (A : Option Addr) (n c : Nat) (k : Int) (hk : 0 ≤ k ∧ k ≤ 10000000) (hn : n ≤ 10000000) (w : World) (hs : Sl w 1 eI A n c (marksI k n)) :
    Calls Tryz.prog 19 #[.slice A n c, .int .i64 k] w fun e w' => .returned (.int .i64 (k + n)) = e ∧ Below w.heap.size w w' := by
  have hle := hs.le
  have hmax := hs.max
  go_enter Tryz.func19, Tryz.ntmps19
  go_wp2
  go_loopg [1, 5] n (fun gg s1 s5 wr => ∃ kk : Nat, kk ≤ n ∧ n - kk ≤ gg ∧ s1 = .int .i64 (k + kk) ∧ s5 = .int .i64 kk ∧ Aside (Below w.heap.size w wr))
  case atStart => exact ⟨0, Nat.zero_le _, by omega, by simp, rfl, (show Aside _ from Below.refl _ _)⟩
  case round =>
    obtain ⟨kk, hkk, hg, rfl, rfl, BW⟩ := hrel
    by_cases hlt : kk < n
    · have hltz : (kk : Int) < (n : Int) := by omega
      obtain ⟨b, o, rfl, y, hx, hc⟩ := hs.nth hlt BW.out
      obtain ⟨-, rfl⟩ := marksI_at hx
      have hc0 := hc 0 _ rfl
      simp only [eI, Nat.add_zero, Nat.mul_one] at hc0
      clear hc hx
      go_wp2
      go_roundg (n - (kk + 1))
      case measure => omega
      case rel => exact ⟨kk + 1, by omega, by omega, by go_num, by go_num, (show Aside _ from BW.out)⟩
    · have hltz : ¬ (kk : Int) < (n : Int) := by omega
      obtain rfl : kk = n := by omega
      go_wp2
      go_ret
      exact ⟨rfl, BW.out⟩
end Go.Proofs.YtckgdlgdipfgmaaGreat