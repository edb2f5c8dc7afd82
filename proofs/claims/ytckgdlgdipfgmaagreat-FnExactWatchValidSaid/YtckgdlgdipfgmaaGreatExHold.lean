/- The exact laws' own functions at Hold: sz, to, eq, mark, held. -/
import Derived.Test.YtckgdlgdipfgmaaGreatExInt
import Derived.Test.YtckgdlgdipfgmaaGreatWSl
import Derived.Test.YtckgdlgdipfgmaaGreatSel
namespace Go.Proofs.YtckgdlgdipfgmaaGreat
set_option linter.unusedVariables false
set_option linter.unusedSimpArgs false
open Go.RowKit

theorem szHold_any (A : Option Addr) (n c : Nat) (left : Int) (hl : 0 ≤ left ∧ left ≤ 1048576) (hn : n ≤ 9223372036854775807) (w : World) :
    Calls Tryz.prog 67 #[.agg #[.slice A n c], .int .i64 left] w fun e w' => .returned (.int .i64 (szOfInt n left)) = e ∧ Below w.heap.size w w' := by
  have hq := fun W => szIntS_any A n c left hl hn W
  have hv : szOfInt n left = -1 ∨ 0 ≤ szOfInt n left := by unfold szOfInt; split <;> omega
  obtain ⟨h1, h2⟩ := hl
  generalize szOfInt n left = v at *
  rcases hv with rfl | hv
  · go_enter Tryz.func67, Tryz.ntmps67
    go_wp2_with fail; refine (hq _).mono ?_; rintro e w' ⟨rfl, rfl⟩
    go_wp2
    go_ret
    exact ⟨rfl, (by repeat (first | exact Below.refl _ _ | assumption | apply alo | (apply Below.setCell; rotate_left; (first | assumption | exact Nat.le_refl _ | (simp only []; omega))) | apply Below.drew | apply belowDrewN | (refine thn ?_ (by assumption))))⟩
  · go_enter Tryz.func67, Tryz.ntmps67
    go_wp2_with fail; refine (hq _).mono ?_; rintro e w' ⟨rfl, rfl⟩
    go_wp2
    go_ret
    exact ⟨rfl, (by repeat (first | exact Below.refl _ _ | assumption | apply alo | (apply Below.setCell; rotate_left; (first | assumption | exact Nat.le_refl _ | (simp only []; omega))) | apply Below.drew | apply belowDrewN | (refine thn ?_ (by assumption))))⟩

set_option maxHeartbeats 1000000 in
theorem toHold_any (A : Option Addr) (n c : Nat) (xs : List Int) (hn : n ≤ 1048576) (w : World) (hs : Sl w 1 eI A n c xs) :
    Calls Tryz.prog 78 #[.agg #[.slice A n c]] w (Post (fun g => .agg #[.slice (some ⟨g, 0, none⟩) n n]) fun g w' => Blk w' g 3 (xs.flatMap eI).toArray ∧ w.heap.size ≤ g ∧ Below w.heap.size w w') := by
  have hq := fun W hW => toIntS_any A n c xs hn W (hs.below hW)
  have hb0 := alo (alo (alo (Below.refl w.heap.size w) (.cells #[.slice A n c] 113)) (.cells #[.slice none 0 0] 80)) (.cells #[.slice none 0 0] 80)
  have B0 := ((Blk.new w 113 #[.slice A n c]).alloc (.cells #[.slice none 0 0] 80)).alloc (.cells #[.slice none 0 0] 80)
  have B1 := (Blk.new2 w (.cells #[.slice A n c] 113) 80 #[.slice none 0 0]).alloc (.cells #[.slice none 0 0] 80)
  have B2 := Blk.new3 w (.cells #[.slice A n c] 113) (.cells #[.slice none 0 0] 80) 80 #[.slice none 0 0]
  skip
  skip
  have cB0_0 := B0.c0; have fB0 := B0.frozen; have cB1_0 := B1.c0; have fB1 := B1.frozen; have cB2_0 := B2.c0; have fB2 := B2.frozen
  go_enter Tryz.func78, Tryz.ntmps78
  go_wp2_with fail
  refine (hq _ hb0).mono ?_
  rintro e w1 ⟨g, rfl, Bg, lg, hbw1⟩
  have hb1 := thn hb0 hbw1
  clear cB0_0 fB0 cB1_0 fB1 cB2_0 fB2
  replace B0 := B0.below hbw1
  replace B1 := B1.below hbw1
  replace B2 := B2.below hbw1
  simp only [whole]
  have cB0_0 := B0.c0; have fB0 := B0.frozen; have cB1_0 := B1.c0; have fB1 := B1.frozen; have cB2_0 := B2.c0; have fB2 := B2.frozen
  have hlg : w.heap.size + 1 + 1 < g := by have := lg; simp at this; omega
  clear hbw1 lg hb0
  go_wp2
  exact bodyPost_ret (v := .agg #[.slice (some ⟨g, 0, none⟩) n n]) (by simp [results, Tryz.results78, go_sem, cB1_0, cB2_0]) rfl ⟨g, rfl, (Bg.far (p := ⟨w.heap.size + 1 + 1, 0, none⟩) (by simp only []; omega) _).far (p := ⟨w.heap.size + 1, 0, none⟩) (by simp only []; omega) _, by omega, (hb1.setCell (p := ⟨w.heap.size + 1 + 1, 0, none⟩) (by simp only []; omega) _).setCell (p := ⟨w.heap.size + 1, 0, none⟩) (by simp only []; omega) _⟩

theorem eqHold_any (A A' : Option Addr) (n c c' : Nat) (xs : List Int) (w : World) (hs : Sl w 1 eI A n c xs) (hs' : Sl w 1 eI A' n c' xs) :
    Calls Tryz.prog 89 #[.agg #[.slice A n c], .agg #[.slice A' n c']] w fun e w' => .returned (.bool true) = e ∧ Below w.heap.size w w' := by
  have hb0 := alo (alo (Below.refl w.heap.size w) (.cells #[.slice A n c] 80)) (.cells #[.slice A' n c'] 80)
  have hq := eqIntS_any A A' n c c' xs _ (hs.below hb0) (hs'.below hb0)
  clear hs hs'
  go_enter Tryz.func89, Tryz.ntmps89
  go_wp2_with fail
  refine hq.mono ?_
  rintro e w1 ⟨rfl, hb1⟩
  go_wp2
  go_ret
  exact ⟨rfl, thn hb0 hb1⟩
end Go.Proofs.YtckgdlgdipfgmaaGreat