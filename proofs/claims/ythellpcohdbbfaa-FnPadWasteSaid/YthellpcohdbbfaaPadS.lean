/- PadStarts of the reference. -/
import Derived.Test.YthellpcohdbbfaaPadV
namespace Go.Proofs.Ythellpcohdbbfaa
set_option linter.unusedVariables false
set_option linter.unusedSimpArgs false
open Go.RowKit

theorem starts_take {xs : List Int} {k : Nat} (h : k < xs.length) : (startsL xs).take (k + 1) = (startsL xs).take k ++ [(xs.take k).sum] := by
  rw [List.take_add_one, starts_at xs k h]
  rfl

set_option maxHeartbeats 2000000 in
theorem specPadStarts_any (A : Option Addr) (n c : Nat) (xs : List Int) (w : World) (hs : Sl w 1 eI A n c xs) :
    Calls Try.prog 31 #[.slice A n c] w (Post SV.v fun s w' => SV.ok w' w.heap.size 1 eI s ∧ s.xs = padStarts xs ∧ Below w.heap.size w w') := by
  have hle := hs.le
  have hmax := hs.max
  have hl := Lib.hid hs.len
  have hb0 := alo (Below.refl w.heap.size w) (.cells #[] 3)
  have own0 : Own (w.alloc (.cells #[] 3)) w.heap.size 3 1 eI _ ([] : List Int) := Own.of_blk (Blk.new w 3 #[]) (Nat.le_refl _) encI (by simp [maxLen])
  go_enter Try.func31, Try.ntmps31
  go_wp2
  go_loopg [3, 4, 5] n (fun gg s3 s4 s5 wr => ∃ (kk : Nat) (s : Int), kk ≤ n ∧ n - kk ≤ gg ∧ s4 = .int .i64 s ∧ s5 = .int .i64 kk ∧ 0 ≤ s ∧ s ≤ 20 * (kk : Int) ∧ (kk = 0 ∨ n ≤ 12) ∧ Aside (Below w.heap.size w wr) ∧ Aside (s = (xs.take kk).sum) ∧ Aside (Own wr w.heap.size 3 1 eI s3 ((startsL xs).take kk)) ∧ Aside (∀ j y, j < kk → xs[j]? = some y → (fun x => inB x 1 20) y = true))
  case atStart => exact ⟨0, 0, Nat.zero_le _, by omega, rfl, rfl, by omega, by omega, .inl rfl, (show Aside _ from hb0), (show Aside _ from rfl), (show Aside _ from own0), (show Aside _ from fun j _ hj => absurd hj (Nat.not_lt_zero _))⟩
  case round =>
    clear hb0 own0
    obtain ⟨kk, s, hkk, hg, rfl, rfl, hs0, hs1, h12, BW, SS, OW, AA⟩ := hrel
    by_cases hlt : kk < n
    · have hltz : (kk : Int) < (n : Int) := by omega
      by_cases hn : n ≤ 12
      · have hnz : (n : Int) ≤ 12 := by omega
        obtain ⟨b, o, rfl, y, hyk, hc⟩ := hs.nth hlt (Below.refl w.heap.size w)
        have hw0 := hc 0 _ rfl
        have hbl : b < w.heap.size := World.block_lt_of_cell? _ _ hw0
        have HT := Lib.hid (sum_take hyk)
        have HX := Lib.hid hyk
        clear hc hyk h12
        simp only [eI, Nat.add_zero, Nat.mul_one] at hw0
        have hc0 := (BW.out.cell (p := ⟨b, o + kk, none⟩) hbl).trans hw0
        have HW := Lib.hid hw0
        clear hw0
        have hq := fun W => l1In_any y 1 20 W
        have hB := @inB_true y 1 20
        obtain ⟨vb, hvb⟩ : ∃ vb, inB y 1 20 = vb := ⟨_, rfl⟩
        rw [hvb] at hq hB
        have HV := Lib.hid hvb
        clear hvb
        cases vb
        · clear hB
          go_wp2_with fail
          refine (hq _).mono ?_; rintro e w' ⟨rfl, rfl⟩
          go_wp2
          go_ret
          have hB2 := alo BW.out (.cells #[] 3)
          have own2 : Own (wr.alloc (.cells #[] 3)) wr.heap.size 3 1 eI _ ([] : List Int) := Own.of_blk (Blk.new wr 3 #[]) (Nat.le_refl _) encI (by simp [maxLen])
          exact ⟨⟨_, _, _, []⟩, rfl, (own2.okv encI).mono BW.out.size, (by show ([] : List Int) = _; unfold padStarts padOk; rw [all_fails HX.out HV.out, Bool.and_false]; rfl), hB2⟩
        · obtain ⟨hy0, hy1⟩ := hB.1 rfl
          clear hB
          have own1 := OW.out
          have hB1 := BW.out
          have hlen : ((startsL xs).take kk).length + 1 ≤ 100000000 := by rw [List.length_take]; omega
          go_wp2_with fail
          refine (hq _).mono ?_; rintro e w' ⟨rfl, rfl⟩
          have src : Sl (wr.alloc (.cells #[.int .i64 s] 3)) 1 eI (some ⟨wr.heap.size, 0, none⟩) 1 1 [s] := Sl.of_blk (xs := [s]) (Blk.new wr 3 #[.int .i64 s]) encI (by simp)
          have own2 := own1.alloc (.cells #[.int .i64 s] 3)
          have hB2 := alo hB1 (.cells #[.int .i64 s] 3)
          go_wp2_with (at_builtin; refine app_own rfl _ _ appInt rfl encI w.heap.size _ _ rfl own2 _ 1 1 [s] rfl (fun e => by cases e) src hlen hB2.size ?_; intro v' w9 own5 hg5; have hB5 := belowApp hB2 own2 hg5 (Nat.le_refl _) hB2.size; have hc9 := (hB5.cell (p := ⟨b, o + kk, none⟩) hbl).trans HW.out)
          go_roundg (n - (kk + 1))
          case measure => omega
          case rel => exact ⟨kk + 1, s + y, by omega, by omega, rfl, by go_num, by omega, by omega, .inr hn, (show Aside _ from hB5), (show Aside _ from (show s + y = (xs.take (kk + 1)).sum by rw [HT.out, ← SS.out])), (show Aside _ from by rw [starts_take (by have := hl.out; omega), ← SS.out]; exact own5), (show Aside _ from all_step AA.out HX.out HV.out)⟩
      · have hnz : ¬ (n : Int) ≤ 12 := by omega
        have hkz : kk = 0 := by omega
        go_wp2
        obtain ⟨A9, c9, rfl, hA9, hsl9, hfr9⟩ := OW.out.sl encI
        go_ret
        exact ⟨⟨A9, _, c9, (startsL xs).take kk⟩, rfl, ⟨hsl9, fun g o e => (hfr9 g o e).1, hA9.1, hA9.2⟩, (by subst hkz; show ([] : List Int) = _; unfold padStarts padOk; rw [decide_eq_false (by have := hl.out; omega)]; rfl), BW.out⟩
    · have hltz : ¬ (kk : Int) < (n : Int) := by omega
      obtain rfl : kk = n := by omega
      obtain ⟨A9, c9, rfl, hA9, hsl9, hfr9⟩ := OW.out.sl encI
      rw [List.length_take] at hsl9
      go_wp2
      go_ret
      exact ⟨⟨A9, _, c9, (startsL xs).take kk⟩, rfl, ⟨hsl9, fun g o e => (hfr9 g o e).1, hA9.1, hA9.2⟩, (by
        unfold padStarts padOk
        rw [all_holds hl.out AA.out, Bool.and_true]
        have e : (startsL xs).take kk = startsL xs := List.take_of_length_le (by rw [starts_len, hl.out]; omega)
        rcases h12 with h | h
        · have : xs = [] := List.eq_nil_of_length_eq_zero (by rw [hl.out, h])
          subst this; simp [startsL]
        · rw [decide_eq_true (by have := hl.out; omega), if_pos rfl]; exact e), BW.out⟩
end Go.Proofs.Ythellpcohdbbfaa
