/- Windows of the reference: l1Window, WindowsValid, WindowAt. -/
import Derived.Test.YtckgdlgdipfgmaaGreatSel
import Derived.Test.YtckgdlgdipfgmaaGreatIdx
import Derived.Test.YtckgdlgdipfgmaaGreatL1In
import Derived.Test.YtckgdlgdipfgmaaGreatWAt
namespace Go.Proofs.YtckgdlgdipfgmaaGreat
set_option linter.unusedVariables false
set_option linter.unusedSimpArgs false
open Go.RowKit

theorem l1Window_any (x : Win) (w : World) : Calls Tryz.prog 147 #[.agg #[.int .i64 x.base, .int .i64 x.size, .bool x.wr]] w fun e w' => .returned (.bool x.ok) = e ∧ Below w.heap.size w w' := by
  obtain ⟨b, s, wr⟩ := x
  simp only [Win.ok]
  cases hb : inB b 0 4095
  · have H := Lib.hid hb
    clear hb
    go_enter Tryz.func147, Tryz.ntmps147
    go_wp2_with (go_at_call 30; refine (l1In_any _ _ _ _).mono ?_; rw [H.out]; rintro e w' ⟨rfl, rfl⟩)
    go_ret
    exact ⟨rfl, (Below.refl _ _).alloc (Nat.le_refl _) _⟩
  · have h := inB_true.1 hb
    have H := Lib.hid hb
    clear hb
    go_enter Tryz.func147, Tryz.ntmps147
    go_wp2_with fail
    refine (l1In_any _ _ _ _).mono ?_; rw [H.out]; rintro e w' ⟨rfl, rfl⟩
    go_wp2_with (go_at_call 30; refine (l1In_any _ _ _ _).mono ?_; rintro e w' ⟨rfl, rfl⟩)
    go_ret
    exact ⟨by simp, (Below.refl _ _).alloc (Nat.le_refl _) _⟩

theorem specWindowsValid_any (A : Option Addr) (n c : Nat) (xs : List Win) (w : World) (hs : Sl w 3 Win.cells A n c xs) :
    Calls Tryz.prog 132 #[.slice A n c] w fun e w' => .returned (.bool (winsOk xs)) = e ∧ Below w.heap.size w w' := by
  have hle := hs.le
  have hmax := hs.max
  go_enter Tryz.func132, Tryz.ntmps132
  go_wp2
  go_loopg [3] n (fun gg s3 wr => ∃ kk : Nat, kk ≤ n ∧ n - kk ≤ gg ∧ s3 = .int .i64 kk ∧ Aside (Below w.heap.size w wr) ∧ Aside (∀ j y, j < kk → xs[j]? = some y → (Win.ok) y = true))
  case atStart => exact ⟨0, Nat.zero_le _, by omega, rfl, (show Aside _ from (by repeat (first | exact Below.refl _ _ | assumption | apply alo | (apply Below.setCell; rotate_left; (first | assumption | exact Nat.le_refl _ | (simp only []; omega))) | apply Below.drew | apply belowDrewN | (refine thn ?_ (by assumption))))), fun j _ hj => absurd hj (Nat.not_lt_zero _)⟩
  case round =>
    obtain ⟨kk, hkk, hg, rfl, BW, AA⟩ := hrel
    by_cases hlt : kk < n
    · have hltz : (kk : Int) < (n : Int) := by omega
      obtain ⟨b, o, rfl, hb, hc⟩ := hs.cells (by omega)
      have hlx : kk < xs.length := by have := hs.len; omega
      have hx : xs[kk]? = some xs[kk] := List.getElem?_eq_getElem hlx
      have hc0 := (BW.out.cell (p := ⟨b, o + kk * 3 + 0, none⟩) hb).trans (hc kk _ hx 0 _ rfl)
      have hc1 := (BW.out.cell (p := ⟨b, o + kk * 3 + 1, none⟩) hb).trans (hc kk _ hx 1 _ rfl)
      have hc2 := (BW.out.cell (p := ⟨b, o + kk * 3 + 2, none⟩) hb).trans (hc kk _ hx 2 _ rfl)
      clear hc
      have HX := Lib.hid hx
      clear hx
      generalize xs[kk] = y at hc0 hc1 hc2 HX
      simp only [Win.cells, Nat.add_zero, Nat.mul_one] at hc0 hc1 hc2
      have hcall := fun W => l1Window_any y W
      cases hq : y.ok
      all_goals
        simp only [hq] at hcall
        have HQ := Lib.hid hq
        clear hq
        go_wp2_with fail; refine (hcall _).mono ?_; rintro e w2 ⟨rfl, hbw2⟩
        go_wp2
      · go_ret
        exact ⟨by rw [winsOk, all_fails HX.out HQ.out, Bool.and_false]; rfl, (by have hBW := BW.out; repeat (first | exact Below.refl _ _ | assumption | apply alo | (apply Below.setCell; rotate_left; (first | assumption | exact Nat.le_refl _ | (simp only []; omega))) | apply Below.drew | apply belowDrewN | (refine thn ?_ (by assumption))))⟩
      · go_roundg (n - (kk + 1))
        case measure => omega
        case rel => exact ⟨kk + 1, by omega, by omega, by go_num, (show Aside _ from (by have hBW := BW.out; repeat (first | exact Below.refl _ _ | assumption | apply alo | (apply Below.setCell; rotate_left; (first | assumption | exact Nat.le_refl _ | (simp only []; omega))) | apply Below.drew | apply belowDrewN | (refine thn ?_ (by assumption))))), (show Aside _ from all_step AA.out HX.out (HQ.out))⟩
    · have hltz : ¬ (kk : Int) < (n : Int) := by omega
      obtain rfl : kk = n := by omega
      have hl := Lib.hid hs.len
      go_wp2
      go_ret
      exact ⟨by rw [winsOk, all_holds hl.out AA.out, hl.out, Bool.and_true]; simp; omega, BW.out⟩
end Go.Proofs.YtckgdlgdipfgmaaGreat
