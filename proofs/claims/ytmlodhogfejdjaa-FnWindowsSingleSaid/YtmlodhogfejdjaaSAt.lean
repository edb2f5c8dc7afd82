/- WindowAt of the reference. -/
import Derived.Test.YtmlodhogfejdjaaSWin
import Derived.Test.YtmlodhogfejdjaaList
namespace Go.Proofs.Ytmlodhogfejdjaa
set_option linter.unusedVariables false
set_option linter.unusedSimpArgs false
open Go.RowKit

theorem specWindowAt_any (A : Option Addr) (n c : Nat) (xs : List Win) (place : Int) (z : Bool) (w : World) (hs : Sl w 3 Win.cells A n c xs) :
    Calls Try.prog 30 #[.slice A n c, .int .i64 place, .bool z] w fun e w' => .returned (.int .i64 (windowAt xs place z)) = e ∧ Below w.heap.size w w' := by
  have hle := hs.le
  have hmax := hs.max
  have hv := fun W hW => specWindowsValid_any A n c xs W (hs.below hW)
  go_enter Try.func30, Try.ntmps30
  go_wp2
  go_loopg [7] n (fun gg s3 wd => ∃ kk : Nat, kk ≤ n ∧ n - kk ≤ gg ∧ s3 = .int .i64 kk ∧ Aside (Below w.heap.size w wd) ∧ Aside (∀ j y, j < kk → xs[j]? = some y → atP place z y = false))
  case atStart => exact ⟨0, Nat.zero_le _, by omega, rfl, (show Aside _ from Below.refl _ _), fun j _ hj => absurd hj (Nat.not_lt_zero _)⟩
  case round =>
    obtain ⟨kk, hkk, hg, rfl, BW, AA⟩ := hrel
    by_cases hlt : kk < n
    · have hltz : (kk : Int) < (n : Int) := by omega
      have hv1 := hv _ BW.out
      clear hv
      cases hok : winsOk xs
      · rw [hok] at hv1
        have HK := Lib.hid hok
        clear hok
        go_wp2_with fail
        refine hv1.mono ?_; rintro e w2 ⟨rfl, hb2⟩
        go_wp2
        go_ret
        exact ⟨by rw [windowAt, HK.out, if_neg Bool.false_ne_true]; rfl, thn BW.out hb2⟩
      · rw [hok] at hv1
        have HK := Lib.hid hok
        go_wp2_with fail
        refine hv1.mono ?_; rintro e w2 ⟨rfl, hb2⟩
        have hB2 := thn BW.out hb2
        clear hv1 hb2
        obtain ⟨b, o, rfl, y, hx, hc⟩ := hs.nth hlt hB2
        have hyk := Win.ok_true.1 ((winsOk_true.1 hok).2 y (List.mem_of_getElem? hx))
        clear hok
        have hc0 := hc 0 _ rfl
        have hc1 := hc 1 _ rfl
        have hc2 := hc 2 _ rfl
        clear hc
        have HX := Lib.hid hx
        clear hx
        have hq := fun W => Calls.flip (l1In_any place y.base (y.base + y.size - 1) W)
        have HP := Lib.hid (show atP place z y = (inB place y.base (y.base + y.size - 1) && (y.wr || !z)) from rfl)
        generalize inB place y.base (y.base + y.size - 1) = vh at hq HP
        obtain ⟨yb, ys, yw⟩ := y
        simp only [Win.cells, Nat.add_zero, List.getElem?_cons_zero, List.getElem?_cons_succ, Option.some.injEq] at hyk hc0 hc1 hc2 hq HP
        obtain ⟨h1, h2, h3, h4⟩ := hyk
        cases vh
        · go_wp2_with fail
          go_quiet ((go_at_call 50; with_reducible exact Calls.quiet_of_same (hq _)))
          go_wp2
          go_roundg (n - (kk + 1))
          case measure => omega
          case rel => exact ⟨kk + 1, by omega, by omega, by go_num, (show Aside _ from belowDrewN' hB2 _), (show Aside _ from all_stepF AA.out HX.out (by rw [HP.out]; rfl))⟩
        · cases yw
          · cases z
            · go_wp2_with fail
              go_quiet ((go_at_call 50; with_reducible exact Calls.quiet_of_same (hq _)))
              go_wp2
              go_ret
              exact ⟨by rw [windowAt, HK.out, if_pos rfl, idxP_hit _ xs kk _ HX.out (by rw [HP.out]; rfl) AA.out]; rfl, belowDrewN' hB2 _⟩
            · go_wp2_with fail
              go_quiet ((go_at_call 50; with_reducible exact Calls.quiet_of_same (hq _)))
              go_wp2
              go_roundg (n - (kk + 1))
              case measure => omega
              case rel => exact ⟨kk + 1, by omega, by omega, by go_num, (show Aside _ from belowDrewN' hB2 _), (show Aside _ from all_stepF AA.out HX.out (by rw [HP.out]; rfl))⟩
          · go_wp2_with fail
            go_quiet ((go_at_call 50; with_reducible exact Calls.quiet_of_same (hq _)))
            go_wp2
            go_ret
            exact ⟨by rw [windowAt, HK.out, if_pos rfl, idxP_hit _ xs kk _ HX.out (by rw [HP.out]; rfl) AA.out]; rfl, belowDrewN' hB2 _⟩
    · have hltz : ¬ (kk : Int) < (n : Int) := by omega
      obtain rfl : kk = n := by omega
      have hl := Lib.hid hs.len
      go_wp2
      go_ret
      exact ⟨by rw [windowAt, idxP_miss _ xs (fun j y hj hy => AA.out j y (by have := hl.out; omega) hy)]; split <;> rfl, BW.out⟩
end Go.Proofs.Ytmlodhogfejdjaa
