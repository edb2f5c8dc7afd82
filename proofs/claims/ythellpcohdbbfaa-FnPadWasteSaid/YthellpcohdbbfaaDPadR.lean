/- Times and needs drawn. -/
import Derived.Test.YthellpcohdbbfaaDPad
import Derived.Test.YthellpcohdbbfaaList
namespace Go.Proofs.Ythellpcohdbbfaa
set_option linter.unusedVariables false
set_option linter.unusedSimpArgs false
open Go.RowKit

theorem Sl.appN {α β : Type} {w w' : World} {base E k k' B : Nat} {enc : α → List Value} {enc' : β → List Value} {v : Value} {xs : List α} {A : Option Addr} {n c : Nat} {ys : List β} (h : Sl w k' enc' A n c ys) (hown : Own w base E k enc v xs) (hg : w.grownBy w' v.ownBlock) (hB : B ≤ base)
    (hA : 0 < n → ∀ b o, A = some ⟨b, o, none⟩ → b < B) : Sl w' k' enc' A n c ys := by
  rcases Nat.eq_zero_or_pos n with h0 | h0
  · exact ⟨h.len, h.le, h.max, fun hn => absurd hn (by omega)⟩
  · exact h.app hown hg (fun b o e => Nat.lt_of_lt_of_le (hA h0 b o e) hB)
theorem Sl.under {α : Type} {w : World} {k n c : Nat} {enc : α → List Value} {A : Option Addr} {xs : List α} (h : Sl w k enc A n c xs) : 0 < n → ∀ b o, A = some ⟨b, o, none⟩ → b < w.heap.size := fun h0 b o e => by
  obtain ⟨b', o', e', hb', _⟩ := h.cells h0
  rw [e] at e'; injection e' with e'; injection e' with e1 e2; omega
theorem Sl.setN {α : Type} {w : World} {k n c B : Nat} {enc : α → List Value} {A : Option Addr} {xs : List α} (h : Sl w k enc A n c xs) (hA : 0 < n → ∀ b o, A = some ⟨b, o, none⟩ → b < B) {p : Addr} (hB : B ≤ p.block) (u : Value) : Sl (w.setCell p u) k enc A n c xs := by
  rcases Nat.eq_zero_or_pos n with h0 | h0
  · exact ⟨h.len, h.le, h.max, fun hn => absurd hn (by omega)⟩
  · exact h.keep (by simp [World.setCell]) (fun b o e => Below.heap_setCell _ _ _ _ (by have := hA h0 b o e; omega))
def prV (x : SV Int × SV Int) : Value := .tuple #[x.1.v, x.2.v]
set_option maxRecDepth 100000 in
set_option maxHeartbeats 2000000 in
theorem drawPadRuns_any (A : Option Addr) (n c : Nat) (zs : List Int) (w : World) (h : Code w A n c zs) :
    Calls Try.prog 32 #[.slice A n c] w (Post prV fun x w' => SV.ok w' w.heap.size 1 eI x.1 ∧ SV.ok w' w.heap.size 1 eI x.2 ∧ x.1.n ≤ 13 ∧ x.2.n ≤ 14 ∧ (∀ y ∈ x.1.xs, JobB y) ∧ Below w.heap.size w w') := by
  obtain ⟨r, hr, hrw⟩ : ∃ r, w.heap.size = r ∧ w.heap.size ≤ r := ⟨_, rfl, Nat.le_refl _⟩
  have hopen := open_at r A n c zs w h hr
  clear h hr
  go_enter Try.func32, Try.ntmps32
  go_wp2_with fail
  refine hopen.mono ?_
  rintro e w0 ⟨rfl, hrd, hb, hsz⟩
  replace hb := hb.mono hrw
  have hS := Stp.refl hrd
  have hr0 := hrd.lt
  clear hrd hopen
  have hz0 := hb.size
  go_wp2_with fail; refine (l20Jobs_any r 12 _ _ (by repeat (first | exact hS.rd | apply Rd.drew | apply Rd.alloc | (apply Rd.setCell; rotate_left; assumption))) (by omega) (by omega)).mono ?_; rintro e w1 ⟨s, rfl, hs1, hs2, hs3, hs⟩; replace hS := Stp.trans (by repeat (first | exact hS | apply Stp.drew | apply Stp.alloc | (apply Stp.set; assumption; assumption))) hs; clear hs
  obtain ⟨A1, n1, c1, xs⟩ := s
  simp only [SV.v] at hs1 hs2 hs3 ⊢
  have hle1 := hs1.sl.le
  have hmax1 := hs1.sl.max
  have hok : ∀ W, Sl W 1 eI A1 n1 c1 xs → SV.ok W w.heap.size 1 eI ⟨A1, n1, c1, xs⟩ := fun W hW => ⟨hW, fun b o e => Nat.le_trans hz0 (hs1.fresh b o e), hs1.nil, hs1.spot⟩
  have hne : ∀ b o, A1 = some ⟨b, o, none⟩ → b ≠ r := fun b o e => by have := hs1.fresh b o e; omega
  have hun := hs1.sl.under
  have hsl := hs1.sl
  obtain ⟨w2, hw2e⟩ : ∃ w2, w1 = w2 := ⟨_, rfl⟩
  have hw12 : w1.heap.size ≤ w2.heap.size := by rw [hw2e]; exact Nat.le_refl _
  have hrw2 : r < w2.heap.size := by rw [← hw2e]; exact hS.rd.lt
  have hww2 : w0.heap.size ≤ w2.heap.size := by rw [← hw2e]; exact hS.grown.size
  have hwb2 : w.heap.size ≤ w2.heap.size := Nat.le_trans hz0 hww2
  have own1 : Own (w1.alloc (.cells #[] 3)) w2.heap.size 3 1 eI _ ([] : List Int) := Own.of_blk (Blk.new w1 3 #[]) (by rw [hw2e]; exact Nat.le_refl _) encI (by simp [maxLen])
  have HW0 := Lib.hid (show w2.heap.size ≤ (w1.alloc (.cells #[] 3)).heap.size by rw [← hw2e]; simp)
  replace hsl := hsl.below ((Below.refl _ _).alloc (Nat.le_refl _) (.cells #[] 3))
  replace hS := hS.alloc (.cells #[] 3)
  clear hw2e
  go_wp2
  go_loopg [6, 7] n1 (fun gg s6 s7 wr => ∃ (kk : Nat) (l : List Int), kk ≤ n1 ∧ n1 - kk ≤ gg ∧ s7 = .int .i64 kk ∧ l.length = kk ∧ Aside (Own wr w2.heap.size 3 1 eI s6 l) ∧ Aside (Sl wr 1 eI A1 n1 c1 xs) ∧ Aside (Stp r 88 w0 (200 + 10 * l.length) wr) ∧ Aside (w2.heap.size ≤ wr.heap.size))
  case atStart => exact ⟨0, [], Nat.zero_le _, by omega, rfl, rfl, (show Aside _ from own1), (show Aside _ from hsl), (show Aside _ from hS.le (by simp)), (show Aside _ from HW0.out)⟩
  case round =>
    clear own1 hsl hS HW0
    obtain ⟨kk, l, hkk, hg, rfl, hl, OW, SL, SS, HW2⟩ := hrel
    obtain ⟨hlA, hlB⟩ : l.length ≤ kk ∧ kk ≤ l.length := by omega
    clear hl
    have own1 := OW.out
    have hsl := SL.out
    have hS := SS.out
    clear OW SL SS
    by_cases hlt : kk < n1
    · have hltz : (kk : Int) < (n1 : Int) := by omega
      skip
      skip
      go_wp2_with fail
      refine (pick_any _ 15 _ _ hS.rd (by omega) (by omega)).mono ?_
      rintro e w3 ⟨v1, rfl, hv10, hv11, hs⟩
      replace hsl := hsl.stp hs hne
      have hz3 := hs.grown.size
      replace own1 := Own.stpOf own1 hs (by repeat (first | exact own1 | apply Own.alloc | apply Own.drew)) (by assumption); replace hS := Stp.trans (by repeat (first | exact hS | apply Stp.drew | apply Stp.alloc | (apply Stp.set; assumption; assumption))) hs; clear hs
      have B1 := Blk.new w3 3 #[.int .i64 v1, .int .i64 9223372036854775807]; have lB1 := hS.rd.lt; have nB1 := Nat.ne_of_gt lB1; have sB1 := hS.grown.size
      replace hsl := hsl.below ((Below.refl _ _).alloc (Nat.le_refl _) (.cells #[.int .i64 v1, .int .i64 9223372036854775807] 3))
      go_wp2_with fail
      refine (pick_any _ 9 _ _ (by repeat (first | exact hS.rd | apply Rd.drew | apply Rd.alloc)) (by omega) (by omega)).mono ?_
      rintro e w4 ⟨v2, rfl, hv20, hv21, hs⟩
      replace hsl := hsl.stp hs hne
      have hz4 := hs.grown.size
      simp at hz4
      replace own1 := Own.stpOf own1 hs (by repeat (first | exact own1 | apply Own.alloc | apply Own.drew)) (by assumption); replace B1 := Blk.stpOf B1 hs (by repeat (first | exact B1 | apply Blk.alloc | apply Blk.drew | (apply Blk.far; rotate_left; (first | assumption | exact Ne.symm (by assumption))) | apply Blk.set_)) (by assumption); replace hS := Stp.trans (by repeat (first | exact hS | apply Stp.drew | apply Stp.alloc | (apply Stp.set; assumption; assumption))) hs; clear hs
      have hq1 : v2 / 8 = 0 ∨ v2 / 8 = 1 := by omega
      have cB1_0 := B1.c0; have cB1_1 := B1.c1; have fB1 := B1.frozen
      rcases hq1 with hq | hq
      · have src : Sl ((w4).alloc (.cells #[.int .i64 (v1)] 3)) 1 eI (some ⟨(w4).heap.size, 0, none⟩) 1 1 [(v1 : Int)] := Sl.of_blk (xs := [(v1 : Int)]) (Blk.new (w4) 3 #[.int .i64 (v1)]) encI (by simp)
        have own2 := own1.alloc (.cells #[.int .i64 (v1)] 3)
        have hS2 := hS.alloc (.cells #[.int .i64 (v1)] 3)
        have hsl2 := hsl.below ((Below.refl _ _).alloc (Nat.le_refl _) (.cells #[.int .i64 (v1)] 3))
        have hlen1 : l.length + 1 ≤ 100000000 := by omega
        have hz2 : w2.heap.size ≤ ((w4).alloc (.cells #[.int .i64 (v1)] 3)).heap.size := by have := HW2.out; simp; omega
        go_wp2_with (at_builtin; refine app_own rfl _ _ appInt rfl encI w2.heap.size _ l rfl own2 _ 1 1 [(v1 : Int)] rfl (fun e => by cases e) src hlen1 hz2 ?_; intro v' w9 own5 hg5; have hS5 := hS2.app own2 hg5 (by omega) (by omega); have hsl5 := hsl2.appN own2 hg5 hw12 hun)
        go_roundg (n1 - (kk + 1))
        case measure => omega
        case rel => exact ⟨kk + 1, l ++ [v1], by omega, by omega, by go_num, by simp; omega, (show Aside _ from own5), (show Aside _ from hsl5), (show Aside _ from hS5.le (by simp; omega)), (show Aside _ from Nat.le_trans hz2 hg5.size)⟩
      · have src : Sl ((w4).alloc (.cells #[.int .i64 (9223372036854775807)] 3)) 1 eI (some ⟨(w4).heap.size, 0, none⟩) 1 1 [(9223372036854775807 : Int)] := Sl.of_blk (xs := [(9223372036854775807 : Int)]) (Blk.new (w4) 3 #[.int .i64 (9223372036854775807)]) encI (by simp)
        have own2 := own1.alloc (.cells #[.int .i64 (9223372036854775807)] 3)
        have hS2 := hS.alloc (.cells #[.int .i64 (9223372036854775807)] 3)
        have hsl2 := hsl.below ((Below.refl _ _).alloc (Nat.le_refl _) (.cells #[.int .i64 (9223372036854775807)] 3))
        have hlen1 : l.length + 1 ≤ 100000000 := by omega
        have hz2 : w2.heap.size ≤ ((w4).alloc (.cells #[.int .i64 (9223372036854775807)] 3)).heap.size := by have := HW2.out; simp; omega
        go_wp2_with (at_builtin; refine app_own rfl _ _ appInt rfl encI w2.heap.size _ l rfl own2 _ 1 1 [(9223372036854775807 : Int)] rfl (fun e => by cases e) src hlen1 hz2 ?_; intro v' w9 own5 hg5; have hS5 := hS2.app own2 hg5 (by omega) (by omega); have hsl5 := hsl2.appN own2 hg5 hw12 hun)
        go_roundg (n1 - (kk + 1))
        case measure => omega
        case rel => exact ⟨kk + 1, l ++ [9223372036854775807], by omega, by omega, by go_num, by simp; omega, (show Aside _ from own5), (show Aside _ from hsl5), (show Aside _ from hS5.le (by simp; omega)), (show Aside _ from Nat.le_trans hz2 hg5.size)⟩
    · have hltz : ¬ (kk : Int) < (n1 : Int) := by omega
      obtain rfl : n1 = kk := by omega
      skip
      skip
      go_wp2_with fail
      refine (odd_any _ 9 _ _ hS.rd (by omega) (by omega)).mono ?_
      rintro e w3 ⟨q, rfl, hs⟩
      replace hsl := hsl.stp hs hne
      have hz3 := hs.grown.size
      replace own1 := Own.stpOf own1 hs (by repeat (first | exact own1 | apply Own.alloc | apply Own.drew)) (by assumption); replace hS := Stp.trans (by repeat (first | exact hS | apply Stp.drew | apply Stp.alloc | (apply Stp.set; assumption; assumption))) hs; clear hs
      cases q
      · have hS8 := hS
        have own8 := own1
        have hsl8 := hsl
        have hlen8 : (l).length ≤ 14 := by first | omega | (simp; omega)
        clear own1 hsl hS
        obtain ⟨A8, c8, rfl, hA8, hs8, hfr8⟩ := own8.sl encI
        have hle8 := hs8.le
        have hmax8 := hs8.max
        by_cases h0 : 0 < (l).length
        · have hlz : (0 : Int) < (((l).length : Nat) : Int) := by omega
          obtain ⟨g, c', hv, hg1, hg2, _, _⟩ := own8.form h0
          injection hv with hv1 hv2 hv3
          subst hv1 hv3
          skip
          skip
          go_wp2_with fail
          refine (odd_any _ 9 _ _ hS8.rd (by omega) (by omega)).mono ?_
          rintro e w6 ⟨q, rfl, hs⟩
          replace hsl8 := hsl8.stp hs hne
          replace own8 := own8.stp hs (by omega)
          replace hS8 := hS8.trans hs
          have hz6 := hs.grown.size
          clear hs hs8 hfr8
          cases q
          · have hsl9 := own8.slI encI
            have hBel := hS8.belowT (a := w) (B := w.heap.size) hb (by omega) hz0
            go_wp2
            go_ret2
            exact ⟨(⟨A1, _, c1, xs⟩, ⟨some ⟨g, 0, none⟩, _, _, l⟩), rfl, hok _ hsl8, ⟨hsl9, fun b o e => (by injection e with e; injection e with e; omega), (fun e => by cases e), (fun ad e => by injection e with e; rw [← e])⟩, hs2, hlen8, hs3, hBel⟩
          · obtain ⟨x0, hx0⟩ : ∃ x0, (l)[0]? = some x0 := ⟨_, List.getElem?_eq_getElem h0⟩
            have cz := own8.cellI hx0
            have fz := own8.frozenAt 0
            have own9 := own8.stored 0 (-1)
            have hsl9 := own9.1.slI encI
            have hBel := hS8.belowT (a := w) (B := w.heap.size) hb (by omega) hz0
            have hslA := hsl8.setN hun (p := ⟨g, 0, none⟩) (by simp only []; omega) (.int .i64 (-1))
            go_wp2
            go_ret2
            exact ⟨(⟨A1, _, c1, xs⟩, ⟨some ⟨g, 0, none⟩, _, _, (l).set 0 (-1)⟩), rfl, hok _ hslA, ⟨hsl9, fun b o e => (by injection e with e; injection e with e; omega), (fun e => by cases e), (fun ad e => by injection e with e; rw [← e])⟩, hs2, hlen8, hs3, hBel.setCell (p := ⟨g, 0, none⟩) (by simp only []; omega) _⟩
        · have hlz : ¬ (0 : Int) < (((l).length : Nat) : Int) := by omega
          have hBel := hS8.belowT (a := w) (B := w.heap.size) hb (by omega) hz0
          go_wp2
          go_ret2
          exact ⟨(⟨A1, _, c1, xs⟩, ⟨A8, _, c8, l⟩), rfl, hok _ hsl8, ⟨hs8, fun b o e => (by have := (hfr8 b o e).1; omega), hA8.1, hA8.2⟩, hs2, hlen8, hs3, hBel⟩
      · have src : Sl ((w3).alloc (.cells #[.int .i64 (-1)] 3)) 1 eI (some ⟨(w3).heap.size, 0, none⟩) 1 1 [(-1 : Int)] := Sl.of_blk (xs := [(-1 : Int)]) (Blk.new (w3) 3 #[.int .i64 (-1)]) encI (by simp)
        have own2 := own1.alloc (.cells #[.int .i64 (-1)] 3)
        have hS2 := hS.alloc (.cells #[.int .i64 (-1)] 3)
        have hsl2 := hsl.below ((Below.refl _ _).alloc (Nat.le_refl _) (.cells #[.int .i64 (-1)] 3))
        have hlen1 : l.length + 1 ≤ 100000000 := by omega
        have hz2 : w2.heap.size ≤ ((w3).alloc (.cells #[.int .i64 (-1)] 3)).heap.size := by have := HW2.out; simp; omega
        go_wp2_with (at_builtin; refine app_own rfl _ _ appInt rfl encI w2.heap.size _ l rfl own2 _ 1 1 [(-1 : Int)] rfl (fun e => by cases e) src hlen1 hz2 ?_; intro v' w9 own5 hg5; have hS5 := hS2.app own2 hg5 (by omega) (by omega); have hsl5 := hsl2.appN own2 hg5 hw12 hun)
        have hlen2 : (l ++ [-1]).length ≤ 14 := by simp; omega
        have hS6 := hS5.le (b' := 200 + 10 * 14 + 10) (by omega)
        clear hS5 hS hS2 hlA hlB
        generalize l ++ [-1] = l2 at *
        have hS8 := hS6
        have own8 := own5
        have hsl8 := hsl5
        have hlen8 : (l2).length ≤ 14 := by first | omega | (simp; omega)
        clear own5 hsl5 hS6
        obtain ⟨A8, c8, rfl, hA8, hs8, hfr8⟩ := own8.sl encI
        have hle8 := hs8.le
        have hmax8 := hs8.max
        by_cases h0 : 0 < (l2).length
        · have hlz : (0 : Int) < (((l2).length : Nat) : Int) := by omega
          obtain ⟨g, c', hv, hg1, hg2, _, _⟩ := own8.form h0
          injection hv with hv1 hv2 hv3
          subst hv1 hv3
          skip
          skip
          go_wp2_with fail
          refine (odd_any _ 9 _ _ hS8.rd (by omega) (by omega)).mono ?_
          rintro e w6 ⟨q, rfl, hs⟩
          replace hsl8 := hsl8.stp hs hne
          replace own8 := own8.stp hs (by omega)
          replace hS8 := hS8.trans hs
          have hz6 := hs.grown.size
          clear hs hs8 hfr8
          cases q
          · have hsl9 := own8.slI encI
            have hBel := hS8.belowT (a := w) (B := w.heap.size) hb (by omega) hz0
            go_wp2
            go_ret2
            exact ⟨(⟨A1, _, c1, xs⟩, ⟨some ⟨g, 0, none⟩, _, _, l2⟩), rfl, hok _ hsl8, ⟨hsl9, fun b o e => (by injection e with e; injection e with e; omega), (fun e => by cases e), (fun ad e => by injection e with e; rw [← e])⟩, hs2, hlen8, hs3, hBel⟩
          · obtain ⟨x0, hx0⟩ : ∃ x0, (l2)[0]? = some x0 := ⟨_, List.getElem?_eq_getElem h0⟩
            have cz := own8.cellI hx0
            have fz := own8.frozenAt 0
            have own9 := own8.stored 0 (-1)
            have hsl9 := own9.1.slI encI
            have hBel := hS8.belowT (a := w) (B := w.heap.size) hb (by omega) hz0
            have hslA := hsl8.setN hun (p := ⟨g, 0, none⟩) (by simp only []; omega) (.int .i64 (-1))
            go_wp2
            go_ret2
            exact ⟨(⟨A1, _, c1, xs⟩, ⟨some ⟨g, 0, none⟩, _, _, (l2).set 0 (-1)⟩), rfl, hok _ hslA, ⟨hsl9, fun b o e => (by injection e with e; injection e with e; omega), (fun e => by cases e), (fun ad e => by injection e with e; rw [← e])⟩, hs2, hlen8, hs3, hBel.setCell (p := ⟨g, 0, none⟩) (by simp only []; omega) _⟩
        · have hlz : ¬ (0 : Int) < (((l2).length : Nat) : Int) := by omega
          have hBel := hS8.belowT (a := w) (B := w.heap.size) hb (by omega) hz0
          go_wp2
          go_ret2
          exact ⟨(⟨A1, _, c1, xs⟩, ⟨A8, _, c8, l2⟩), rfl, hok _ hsl8, ⟨hs8, fun b o e => (by have := (hfr8 b o e).1; omega), hA8.1, hA8.2⟩, hs2, hlen8, hs3, hBel⟩
end Go.Proofs.Ythellpcohdbbfaa
