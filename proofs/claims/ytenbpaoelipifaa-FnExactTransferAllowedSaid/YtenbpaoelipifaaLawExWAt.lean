/- The walk of FnExactWindowAt. -/
import Derived.Test.YtenbpaoelipifaaExWin
import Derived.Test.YtenbpaoelipifaaSAt
namespace Go.Proofs.Ytenbpaoelipifaa
open Go.RowKit

theorem szOf_neg {n : Nat} (h : ¬ n ≤ 1048576) : szOf n 1048576 = -1 := by unfold szOf; rw [if_pos (by omega)]
theorem szOf_pos {n : Nat} (h : n ≤ 1048576) : szOf n 1048576 = 1048576 - n := by unfold szOf; rw [if_neg (by omega)]

set_option maxHeartbeats 1000000 in
theorem lawExactWindowAt (A : Option Addr) (n c : Nat) (xs : List Win) (place : Int) (z : Bool) (w : World) (hs : Sl w 3 Win.cells A n c xs) :
    Calls Try.prog 4 #[.slice A n c, .int .i64 place, .bool z] w fun e w' => .returned (.bool true) = e ∧ Below w.heap.size w w' := by
  have hle := hs.le
  have hmax := hs.max
  have hz := fun W => szWindowS_any A n c 1048576 (by omega) (by omega) W
  by_cases hn : n ≤ 1048576
  · rw [szOf_pos hn] at hz
    have h0 := Below.refl w.heap.size w
    go_enter Try.func4, Try.ntmps4
    go_wp2_with fail; refine (hz _).mono ?_; rintro e w' ⟨rfl, rfl⟩
    go_wp2_with fail
    refine (toWindowS_any A n c xs hn _ (hs.below h0)).mono ?_
    rintro e w1 ⟨g1, rfl, Bg1, lg1, hbw1⟩
    have hw1 := thn h0 hbw1
    have sg1 : Sl w1 3 Win.cells (some ⟨g1, 0, none⟩) n n xs := by have := Sl.of_blk Bg1 encW (by rw [hs.len]; omega); rw [hs.len] at this; exact this
    clear Bg1 lg1
    simp only [whole]
    have hS := specWindowAt_any _ _ _ xs place z _ sg1
    go_wp2_with fail
    refine hS.mono ?_
    rintro e w2 ⟨rfl, hb2⟩
    have h2 := thn hw1 hb2
    clear hS hb2 hbw1 sg1
    go_wp2_with fail
    refine (toWindowS_any A n c xs hn _ (hs.below h2)).mono ?_
    rintro e w3 ⟨g2, rfl, Bg2, lg2, hbw3⟩
    have hw3 := thn h2 hbw3
    have sg2 : Sl w3 3 Win.cells (some ⟨g2, 0, none⟩) n n xs := by have := Sl.of_blk Bg2 encW (by rw [hs.len]; omega); rw [hs.len] at this; exact this
    clear Bg2 lg2
    simp only [whole]
    have hI := windowAt_any _ _ _ xs place z _ sg2
    generalize windowAt xs place z = v at *
    go_wp2_with fail
    refine hI.mono ?_
    rintro e w4 ⟨rfl, hb4⟩
    have h4 := thn hw3 hb4
    have sg2' := sg2.below hb4
    clear hI hb4 hbw3 sg2
    go_wp2_with fail
    refine (toWindowS_any A n c xs hn _ (hs.below h4)).mono ?_
    rintro e w5 ⟨g3, rfl, Bg3, lg3, hbw5⟩
    have hw5 := thn h4 hbw5
    have sg3 : Sl w5 3 Win.cells (some ⟨g3, 0, none⟩) n n xs := by have := Sl.of_blk Bg3 encW (by rw [hs.len]; omega); rw [hs.len] at this; exact this
    clear Bg3 lg3
    simp only [whole]
    have hE := eqWindowS_any _ _ _ _ _ xs _ (sg2'.below hbw5) sg3
    go_wp2_with fail
    refine hE.mono ?_
    rintro e w6 ⟨rfl, hb6⟩
    go_wp2
    go_ret
    exact ⟨rfl, thn hw5 hb6⟩
  · rw [szOf_neg hn] at hz
    go_enter Try.func4, Try.ntmps4
    go_wp2_with fail; refine (hz _).mono ?_; rintro e w' ⟨rfl, rfl⟩
    go_wp2
    go_ret
    exact ⟨rfl, Below.refl _ _⟩
end Go.Proofs.Ytenbpaoelipifaa
