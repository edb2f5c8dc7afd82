/- sameInts of laws: the same elements. -/
import Derived.Test.YtffhcifeccdfjaaList
namespace Go.Proofs.Ytffhcifeccdfjaa
set_option linter.unusedVariables false
set_option linter.unusedSimpArgs false
open Go.RowKit

theorem sameInts_any (A A' : Option Addr) (n n' c c' : Nat) (xs ys : List Int) (w : World) (hs : Sl w 1 eI A n c xs) (hs' : Sl w 1 eI A' n' c' ys) :
    Calls Try.prog 38 #[.slice A n c, .slice A' n' c'] w fun e w' => .returned (.bool (decide (xs = ys))) = e ∧ Below w.heap.size w w' := by
  have hle := hs.le
  have hmax := hs.max
  have hle' := hs'.le
  have hmax' := hs'.max
  by_cases hn : n = n'
  · subst hn
    go_enter Try.func38, Try.ntmps38
    go_wp2
    go_loopg [5] n (fun gg s3 wr => ∃ kk : Nat, kk ≤ n ∧ n - kk ≤ gg ∧ s3 = .int .i64 kk ∧ Aside (Below w.heap.size w wr) ∧ Aside (∀ j, j < kk → xs[j]? = ys[j]?))
    case atStart => exact ⟨0, Nat.zero_le _, by omega, rfl, (show Aside _ from Below.refl _ _), fun j hj => absurd hj (Nat.not_lt_zero _)⟩
    case round =>
      obtain ⟨kk, hkk, hg, rfl, BW, AA⟩ := hrel
      by_cases hlt : kk < n
      · have hltz : (kk : Int) < (n : Int) := by omega
        obtain ⟨b, o, rfl, y, hy, hc⟩ := hs.nth hlt BW.out
        obtain ⟨b', o', rfl, y', hy', hc'⟩ := hs'.nth hlt BW.out
        have hc0 := hc 0 _ rfl
        have hc0' := hc' 0 _ rfl
        clear hc hc'
        simp only [eI, Nat.add_zero, Nat.mul_one] at hc0 hc0'
        have HX := Lib.hid hy
        have HY := Lib.hid hy'
        clear hy hy'
        by_cases hq : y = y'
        · subst hq
          go_wp2_with fail
          go_quiet (fail)
          go_wp2
          go_roundg (n - (kk + 1))
          case measure => omega
          case rel => exact ⟨kk + 1, by omega, by omega, by go_num, (show Aside _ from belowDrewN' BW.out _), (show Aside _ from same_step AA.out HX.out HY.out)⟩
        · go_wp2_with fail
          go_quiet (fail)
          go_wp2
          go_ret
          exact ⟨by rw [decide_eq_false (same_fails HX.out HY.out hq)]; rfl, belowDrewN' BW.out _⟩
      · have hltz : ¬ (kk : Int) < (n : Int) := by omega
        obtain rfl : kk = n := by omega
        go_wp2
        go_ret
        exact ⟨by rw [decide_eq_true (same_holds hs.len hs'.len AA.out)]; rfl, BW.out⟩
  · have hn' : ¬ xs = ys := fun e => hn (by rw [← hs.len, ← hs'.len, e])
    rw [decide_eq_false hn']
    have hnz : ¬ (n : Int) = (n' : Int) := by omega
    go_enter Try.func38, Try.ntmps38
    go_wp2
    go_ret
    exact ⟨rfl, Below.refl _ _⟩
end Go.Proofs.Ytffhcifeccdfjaa
