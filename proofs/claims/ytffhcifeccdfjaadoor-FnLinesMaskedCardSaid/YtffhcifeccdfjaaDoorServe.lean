/- spec.NextLine; ServeLine, RaiseLine of impl and spec; MaskLine of impl. -/
import Derived.Test.YtffhcifeccdfjaaDoorNextL
import Derived.RegionTactic
import Derived.BigRegion
namespace Go.Proofs.YtffhcifeccdfjaaDoor
set_option linter.unusedVariables false
set_option linter.unusedSimpArgs false
open Go.RowKit

def lnV (x : Int × Int) : Value := .agg #[.int .i64 x.1, .int .i64 x.2]
def serveV (x : Int × Int × Int) : Value := .tuple #[.agg #[.int .i64 x.1, .int .i64 x.2.1], .int .i64 x.2.2]
def serveL (a b : Int) : Int × Int × Int := if linesOk a b = true then (if 0 ≤ nextL a b then (bits .andNot .i64 a (2 ^ (nextL a b).toNat), b, nextL a b) else (a, b, -1)) else (0, 0, -1)
def raiseL (a b n : Int) : Int × Int := if linesOk a b = true ∧ inB n 0 7 = true then (bits .or .i64 a (2 ^ n.toNat), b) else (0, 0)
def maskL (a b n : Int) : Int × Int := if linesOk a b = true ∧ inB n 0 7 = true then (a, bits .or .i64 b (2 ^ n.toNat)) else (0, 0)
theorem linesOk_true {a b : Int} : linesOk a b = true ↔ 0 ≤ a ∧ a ≤ 255 ∧ 0 ≤ b ∧ b ≤ 255 := by simp [linesOk, inB, and_assoc]

set_option maxHeartbeats 2000000 in
theorem serveLine_any (a b : Int) (w : World) (hT : Tab w) : Calls Tryd.prog 12 #[.agg #[.int .i64 a, .int .i64 b]] w fun e w' => .returned (serveV (serveL a b)) = e ∧ Below w.heap.size w w' := by
  have hI := fun W => linesValid_any a b W
  have hN := fun W (hW : Below w.heap.size w W) => nextLine_any a b W (hT.below hW)
  have hb0 := alo (alo (Below.refl w.heap.size w) (.cells #[.int .i64 a, .int .i64 b] 24)) (.cells #[.int .i64 0, .int .i64 0] 24)
  have B1 := (Blk.new w 24 #[.int .i64 a, .int .i64 b]).alloc (.cells #[.int .i64 0, .int .i64 0] 24)
  have B2 := Blk.new2 w (.cells #[.int .i64 a, .int .i64 b] 24) 24 #[.int .i64 0, .int .i64 0]
  skip
  skip
  cases hl : linesOk a b
  · have hs : serveL a b = (0, 0, -1) := by simp [serveL, hl]
    rw [hs]
    rw [hl] at hI
    clear hl hs hN
    go_enter Tryd.func12, Tryd.ntmps12
    go_wp2_with fail; refine (hI _).mono ?_; rintro e w1 ⟨rfl, hbw1⟩; replace B1 := Blk.belowOf B1 hbw1 (by repeat (first | exact B1 | apply Blk.alloc | apply Blk.drew | (apply Blk.far; rotate_left; (first | assumption | exact Ne.symm (by assumption))) | apply Blk.set_)); replace B2 := Blk.belowOf B2 hbw1 (by repeat (first | exact B2 | apply Blk.alloc | apply Blk.drew | (apply Blk.far; rotate_left; (first | assumption | exact Ne.symm (by assumption))) | apply Blk.set_))
    have hb1 := thn hb0 hbw1
    have cB1_0 := B1.c0; have cB1_1 := B1.c1; have fB1 := B1.frozen; have cB2_0 := B2.c0; have cB2_1 := B2.c1; have fB2 := B2.frozen
    go_wp2
    exact bodyPost_ret (v := serveV (0, 0, -1)) (by simp [results, Tryd.results12, go_sem, serveV, cB1_0, cB1_1, cB2_0, cB2_1]) rfl ⟨rfl, by repeat (first | exact hb1 | (apply Below.setCell; rotate_left; (simp only []; omega)))⟩
  · rw [hl] at hI
    rcases nextL_cases a b with ⟨e1, -⟩ | ⟨k, hk, e1, -⟩
    · have hs : serveL a b = (a, b, -1) := by simp [serveL, hl, e1]
      rw [hs]
      rw [e1] at hN
      clear hl hs e1
      go_enter Tryd.func12, Tryd.ntmps12
      go_wp2_with fail; refine (hI _).mono ?_; rintro e w1 ⟨rfl, hbw1⟩; replace B1 := Blk.belowOf B1 hbw1 (by repeat (first | exact B1 | apply Blk.alloc | apply Blk.drew | (apply Blk.far; rotate_left; (first | assumption | exact Ne.symm (by assumption))) | apply Blk.set_)); replace B2 := Blk.belowOf B2 hbw1 (by repeat (first | exact B2 | apply Blk.alloc | apply Blk.drew | (apply Blk.far; rotate_left; (first | assumption | exact Ne.symm (by assumption))) | apply Blk.set_))
      have hb1 := thn hb0 hbw1
      have cB1_0 := B1.c0; have cB1_1 := B1.c1; have fB1 := B1.frozen; have cB2_0 := B2.c0; have cB2_1 := B2.c1; have fB2 := B2.frozen
      go_wp2_with fail
      refine (hN _ hb1).mono ?_; rintro e w2 ⟨rfl, hb2⟩
      clear cB1_0 cB1_1 fB1 cB2_0 cB2_1 fB2
      replace B1 := B1.below hb2
      replace B2 := B2.below hb2
      have hb3 := thn hb1 hb2
      have cB1_0 := B1.c0; have cB1_1 := B1.c1; have fB1 := B1.frozen; have cB2_0 := B2.c0; have cB2_1 := B2.c1; have fB2 := B2.frozen
      go_wp2
      exact bodyPost_ret (v := serveV (a, b, -1)) (by simp [results, Tryd.results12, go_sem, serveV, cB1_0, cB1_1, cB2_0, cB2_1]) rfl ⟨rfl, by repeat (first | exact hb3 | (apply Below.setCell; rotate_left; (simp only []; omega)))⟩
    · rcases (show k = 0 ∨ k = 1 ∨ k = 2 ∨ k = 3 ∨ k = 4 ∨ k = 5 ∨ k = 6 ∨ k = 7 by omega) with hk | hk | hk | hk | hk | hk | hk | hk
      · obtain rfl : k = 0 := hk
        obtain ⟨s, hs⟩ : ∃ s, serveL a b = s := ⟨_, rfl⟩
        have hs' : s = (bits .andNot .i64 a 1, b, 0) := by
          rw [← hs]
          unfold serveL
          rw [if_pos hl, e1, if_pos (by decide)]
          rfl
        rw [hs, hs']
        clear hs hs' hl
        rw [e1] at hN
        go_enter Tryd.func12, Tryd.ntmps12
        go_wp2_with fail; refine (hI _).mono ?_; rintro e w1 ⟨rfl, hbw1⟩; replace B1 := Blk.belowOf B1 hbw1 (by repeat (first | exact B1 | apply Blk.alloc | apply Blk.drew | (apply Blk.far; rotate_left; (first | assumption | exact Ne.symm (by assumption))) | apply Blk.set_)); replace B2 := Blk.belowOf B2 hbw1 (by repeat (first | exact B2 | apply Blk.alloc | apply Blk.drew | (apply Blk.far; rotate_left; (first | assumption | exact Ne.symm (by assumption))) | apply Blk.set_))
        have hb1 := thn hb0 hbw1
        have cB1_0 := B1.c0; have cB1_1 := B1.c1; have fB1 := B1.frozen; have cB2_0 := B2.c0; have cB2_1 := B2.c1; have fB2 := B2.frozen
        go_wp2_with fail
        refine (hN _ hb1).mono ?_; rintro e w2 ⟨rfl, hb2⟩
        clear cB1_0 cB1_1 fB1 cB2_0 cB2_1 fB2
        replace B1 := B1.below hb2
        replace B2 := B2.below hb2
        have hb3 := thn hb1 hb2
        have cB1_0 := B1.c0; have cB1_1 := B1.c1; have fB1 := B1.frozen; have cB2_0 := B2.c0; have cB2_1 := B2.c1; have fB2 := B2.frozen
        go_wp2
        go_region
        all_goals
          go_wp2
          exact bodyPost_ret (v := serveV (bits .andNot .i64 a 1, b, 0)) (by simp [results, Tryd.results12, go_sem, serveV, cB1_0, cB1_1, cB2_0, cB2_1]) rfl ⟨rfl, by repeat (first | exact hb3 | (apply Below.setCell; rotate_left; (simp only []; omega)) | apply Below.drew | apply belowDrewN)⟩
      · obtain rfl : k = 1 := hk
        obtain ⟨s, hs⟩ : ∃ s, serveL a b = s := ⟨_, rfl⟩
        have hs' : s = (bits .andNot .i64 a 2, b, 1) := by
          rw [← hs]
          unfold serveL
          rw [if_pos hl, e1, if_pos (by decide)]
          rfl
        rw [hs, hs']
        clear hs hs' hl
        rw [e1] at hN
        go_enter Tryd.func12, Tryd.ntmps12
        go_wp2_with fail; refine (hI _).mono ?_; rintro e w1 ⟨rfl, hbw1⟩; replace B1 := Blk.belowOf B1 hbw1 (by repeat (first | exact B1 | apply Blk.alloc | apply Blk.drew | (apply Blk.far; rotate_left; (first | assumption | exact Ne.symm (by assumption))) | apply Blk.set_)); replace B2 := Blk.belowOf B2 hbw1 (by repeat (first | exact B2 | apply Blk.alloc | apply Blk.drew | (apply Blk.far; rotate_left; (first | assumption | exact Ne.symm (by assumption))) | apply Blk.set_))
        have hb1 := thn hb0 hbw1
        have cB1_0 := B1.c0; have cB1_1 := B1.c1; have fB1 := B1.frozen; have cB2_0 := B2.c0; have cB2_1 := B2.c1; have fB2 := B2.frozen
        go_wp2_with fail
        refine (hN _ hb1).mono ?_; rintro e w2 ⟨rfl, hb2⟩
        clear cB1_0 cB1_1 fB1 cB2_0 cB2_1 fB2
        replace B1 := B1.below hb2
        replace B2 := B2.below hb2
        have hb3 := thn hb1 hb2
        have cB1_0 := B1.c0; have cB1_1 := B1.c1; have fB1 := B1.frozen; have cB2_0 := B2.c0; have cB2_1 := B2.c1; have fB2 := B2.frozen
        go_wp2
        go_region
        all_goals
          go_wp2
          exact bodyPost_ret (v := serveV (bits .andNot .i64 a 2, b, 1)) (by simp [results, Tryd.results12, go_sem, serveV, cB1_0, cB1_1, cB2_0, cB2_1]) rfl ⟨rfl, by repeat (first | exact hb3 | (apply Below.setCell; rotate_left; (simp only []; omega)) | apply Below.drew | apply belowDrewN)⟩
      · obtain rfl : k = 2 := hk
        obtain ⟨s, hs⟩ : ∃ s, serveL a b = s := ⟨_, rfl⟩
        have hs' : s = (bits .andNot .i64 a 4, b, 2) := by
          rw [← hs]
          unfold serveL
          rw [if_pos hl, e1, if_pos (by decide)]
          rfl
        rw [hs, hs']
        clear hs hs' hl
        rw [e1] at hN
        go_enter Tryd.func12, Tryd.ntmps12
        go_wp2_with fail; refine (hI _).mono ?_; rintro e w1 ⟨rfl, hbw1⟩; replace B1 := Blk.belowOf B1 hbw1 (by repeat (first | exact B1 | apply Blk.alloc | apply Blk.drew | (apply Blk.far; rotate_left; (first | assumption | exact Ne.symm (by assumption))) | apply Blk.set_)); replace B2 := Blk.belowOf B2 hbw1 (by repeat (first | exact B2 | apply Blk.alloc | apply Blk.drew | (apply Blk.far; rotate_left; (first | assumption | exact Ne.symm (by assumption))) | apply Blk.set_))
        have hb1 := thn hb0 hbw1
        have cB1_0 := B1.c0; have cB1_1 := B1.c1; have fB1 := B1.frozen; have cB2_0 := B2.c0; have cB2_1 := B2.c1; have fB2 := B2.frozen
        go_wp2_with fail
        refine (hN _ hb1).mono ?_; rintro e w2 ⟨rfl, hb2⟩
        clear cB1_0 cB1_1 fB1 cB2_0 cB2_1 fB2
        replace B1 := B1.below hb2
        replace B2 := B2.below hb2
        have hb3 := thn hb1 hb2
        have cB1_0 := B1.c0; have cB1_1 := B1.c1; have fB1 := B1.frozen; have cB2_0 := B2.c0; have cB2_1 := B2.c1; have fB2 := B2.frozen
        go_wp2
        go_region
        all_goals
          go_wp2
          exact bodyPost_ret (v := serveV (bits .andNot .i64 a 4, b, 2)) (by simp [results, Tryd.results12, go_sem, serveV, cB1_0, cB1_1, cB2_0, cB2_1]) rfl ⟨rfl, by repeat (first | exact hb3 | (apply Below.setCell; rotate_left; (simp only []; omega)) | apply Below.drew | apply belowDrewN)⟩
      · obtain rfl : k = 3 := hk
        obtain ⟨s, hs⟩ : ∃ s, serveL a b = s := ⟨_, rfl⟩
        have hs' : s = (bits .andNot .i64 a 8, b, 3) := by
          rw [← hs]
          unfold serveL
          rw [if_pos hl, e1, if_pos (by decide)]
          rfl
        rw [hs, hs']
        clear hs hs' hl
        rw [e1] at hN
        go_enter Tryd.func12, Tryd.ntmps12
        go_wp2_with fail; refine (hI _).mono ?_; rintro e w1 ⟨rfl, hbw1⟩; replace B1 := Blk.belowOf B1 hbw1 (by repeat (first | exact B1 | apply Blk.alloc | apply Blk.drew | (apply Blk.far; rotate_left; (first | assumption | exact Ne.symm (by assumption))) | apply Blk.set_)); replace B2 := Blk.belowOf B2 hbw1 (by repeat (first | exact B2 | apply Blk.alloc | apply Blk.drew | (apply Blk.far; rotate_left; (first | assumption | exact Ne.symm (by assumption))) | apply Blk.set_))
        have hb1 := thn hb0 hbw1
        have cB1_0 := B1.c0; have cB1_1 := B1.c1; have fB1 := B1.frozen; have cB2_0 := B2.c0; have cB2_1 := B2.c1; have fB2 := B2.frozen
        go_wp2_with fail
        refine (hN _ hb1).mono ?_; rintro e w2 ⟨rfl, hb2⟩
        clear cB1_0 cB1_1 fB1 cB2_0 cB2_1 fB2
        replace B1 := B1.below hb2
        replace B2 := B2.below hb2
        have hb3 := thn hb1 hb2
        have cB1_0 := B1.c0; have cB1_1 := B1.c1; have fB1 := B1.frozen; have cB2_0 := B2.c0; have cB2_1 := B2.c1; have fB2 := B2.frozen
        go_wp2
        go_region
        all_goals
          go_wp2
          exact bodyPost_ret (v := serveV (bits .andNot .i64 a 8, b, 3)) (by simp [results, Tryd.results12, go_sem, serveV, cB1_0, cB1_1, cB2_0, cB2_1]) rfl ⟨rfl, by repeat (first | exact hb3 | (apply Below.setCell; rotate_left; (simp only []; omega)) | apply Below.drew | apply belowDrewN)⟩
      · obtain rfl : k = 4 := hk
        obtain ⟨s, hs⟩ : ∃ s, serveL a b = s := ⟨_, rfl⟩
        have hs' : s = (bits .andNot .i64 a 16, b, 4) := by
          rw [← hs]
          unfold serveL
          rw [if_pos hl, e1, if_pos (by decide)]
          rfl
        rw [hs, hs']
        clear hs hs' hl
        rw [e1] at hN
        go_enter Tryd.func12, Tryd.ntmps12
        go_wp2_with fail; refine (hI _).mono ?_; rintro e w1 ⟨rfl, hbw1⟩; replace B1 := Blk.belowOf B1 hbw1 (by repeat (first | exact B1 | apply Blk.alloc | apply Blk.drew | (apply Blk.far; rotate_left; (first | assumption | exact Ne.symm (by assumption))) | apply Blk.set_)); replace B2 := Blk.belowOf B2 hbw1 (by repeat (first | exact B2 | apply Blk.alloc | apply Blk.drew | (apply Blk.far; rotate_left; (first | assumption | exact Ne.symm (by assumption))) | apply Blk.set_))
        have hb1 := thn hb0 hbw1
        have cB1_0 := B1.c0; have cB1_1 := B1.c1; have fB1 := B1.frozen; have cB2_0 := B2.c0; have cB2_1 := B2.c1; have fB2 := B2.frozen
        go_wp2_with fail
        refine (hN _ hb1).mono ?_; rintro e w2 ⟨rfl, hb2⟩
        clear cB1_0 cB1_1 fB1 cB2_0 cB2_1 fB2
        replace B1 := B1.below hb2
        replace B2 := B2.below hb2
        have hb3 := thn hb1 hb2
        have cB1_0 := B1.c0; have cB1_1 := B1.c1; have fB1 := B1.frozen; have cB2_0 := B2.c0; have cB2_1 := B2.c1; have fB2 := B2.frozen
        go_wp2
        go_region
        all_goals
          go_wp2
          exact bodyPost_ret (v := serveV (bits .andNot .i64 a 16, b, 4)) (by simp [results, Tryd.results12, go_sem, serveV, cB1_0, cB1_1, cB2_0, cB2_1]) rfl ⟨rfl, by repeat (first | exact hb3 | (apply Below.setCell; rotate_left; (simp only []; omega)) | apply Below.drew | apply belowDrewN)⟩
      · obtain rfl : k = 5 := hk
        obtain ⟨s, hs⟩ : ∃ s, serveL a b = s := ⟨_, rfl⟩
        have hs' : s = (bits .andNot .i64 a 32, b, 5) := by
          rw [← hs]
          unfold serveL
          rw [if_pos hl, e1, if_pos (by decide)]
          rfl
        rw [hs, hs']
        clear hs hs' hl
        rw [e1] at hN
        go_enter Tryd.func12, Tryd.ntmps12
        go_wp2_with fail; refine (hI _).mono ?_; rintro e w1 ⟨rfl, hbw1⟩; replace B1 := Blk.belowOf B1 hbw1 (by repeat (first | exact B1 | apply Blk.alloc | apply Blk.drew | (apply Blk.far; rotate_left; (first | assumption | exact Ne.symm (by assumption))) | apply Blk.set_)); replace B2 := Blk.belowOf B2 hbw1 (by repeat (first | exact B2 | apply Blk.alloc | apply Blk.drew | (apply Blk.far; rotate_left; (first | assumption | exact Ne.symm (by assumption))) | apply Blk.set_))
        have hb1 := thn hb0 hbw1
        have cB1_0 := B1.c0; have cB1_1 := B1.c1; have fB1 := B1.frozen; have cB2_0 := B2.c0; have cB2_1 := B2.c1; have fB2 := B2.frozen
        go_wp2_with fail
        refine (hN _ hb1).mono ?_; rintro e w2 ⟨rfl, hb2⟩
        clear cB1_0 cB1_1 fB1 cB2_0 cB2_1 fB2
        replace B1 := B1.below hb2
        replace B2 := B2.below hb2
        have hb3 := thn hb1 hb2
        have cB1_0 := B1.c0; have cB1_1 := B1.c1; have fB1 := B1.frozen; have cB2_0 := B2.c0; have cB2_1 := B2.c1; have fB2 := B2.frozen
        go_wp2
        go_region
        all_goals
          go_wp2
          exact bodyPost_ret (v := serveV (bits .andNot .i64 a 32, b, 5)) (by simp [results, Tryd.results12, go_sem, serveV, cB1_0, cB1_1, cB2_0, cB2_1]) rfl ⟨rfl, by repeat (first | exact hb3 | (apply Below.setCell; rotate_left; (simp only []; omega)) | apply Below.drew | apply belowDrewN)⟩
      · obtain rfl : k = 6 := hk
        obtain ⟨s, hs⟩ : ∃ s, serveL a b = s := ⟨_, rfl⟩
        have hs' : s = (bits .andNot .i64 a 64, b, 6) := by
          rw [← hs]
          unfold serveL
          rw [if_pos hl, e1, if_pos (by decide)]
          rfl
        rw [hs, hs']
        clear hs hs' hl
        rw [e1] at hN
        go_enter Tryd.func12, Tryd.ntmps12
        go_wp2_with fail; refine (hI _).mono ?_; rintro e w1 ⟨rfl, hbw1⟩; replace B1 := Blk.belowOf B1 hbw1 (by repeat (first | exact B1 | apply Blk.alloc | apply Blk.drew | (apply Blk.far; rotate_left; (first | assumption | exact Ne.symm (by assumption))) | apply Blk.set_)); replace B2 := Blk.belowOf B2 hbw1 (by repeat (first | exact B2 | apply Blk.alloc | apply Blk.drew | (apply Blk.far; rotate_left; (first | assumption | exact Ne.symm (by assumption))) | apply Blk.set_))
        have hb1 := thn hb0 hbw1
        have cB1_0 := B1.c0; have cB1_1 := B1.c1; have fB1 := B1.frozen; have cB2_0 := B2.c0; have cB2_1 := B2.c1; have fB2 := B2.frozen
        go_wp2_with fail
        refine (hN _ hb1).mono ?_; rintro e w2 ⟨rfl, hb2⟩
        clear cB1_0 cB1_1 fB1 cB2_0 cB2_1 fB2
        replace B1 := B1.below hb2
        replace B2 := B2.below hb2
        have hb3 := thn hb1 hb2
        have cB1_0 := B1.c0; have cB1_1 := B1.c1; have fB1 := B1.frozen; have cB2_0 := B2.c0; have cB2_1 := B2.c1; have fB2 := B2.frozen
        go_wp2
        go_region
        all_goals
          go_wp2
          exact bodyPost_ret (v := serveV (bits .andNot .i64 a 64, b, 6)) (by simp [results, Tryd.results12, go_sem, serveV, cB1_0, cB1_1, cB2_0, cB2_1]) rfl ⟨rfl, by repeat (first | exact hb3 | (apply Below.setCell; rotate_left; (simp only []; omega)) | apply Below.drew | apply belowDrewN)⟩
      · obtain rfl : k = 7 := hk
        obtain ⟨s, hs⟩ : ∃ s, serveL a b = s := ⟨_, rfl⟩
        have hs' : s = (bits .andNot .i64 a 128, b, 7) := by
          rw [← hs]
          unfold serveL
          rw [if_pos hl, e1, if_pos (by decide)]
          rfl
        rw [hs, hs']
        clear hs hs' hl
        rw [e1] at hN
        go_enter Tryd.func12, Tryd.ntmps12
        go_wp2_with fail; refine (hI _).mono ?_; rintro e w1 ⟨rfl, hbw1⟩; replace B1 := Blk.belowOf B1 hbw1 (by repeat (first | exact B1 | apply Blk.alloc | apply Blk.drew | (apply Blk.far; rotate_left; (first | assumption | exact Ne.symm (by assumption))) | apply Blk.set_)); replace B2 := Blk.belowOf B2 hbw1 (by repeat (first | exact B2 | apply Blk.alloc | apply Blk.drew | (apply Blk.far; rotate_left; (first | assumption | exact Ne.symm (by assumption))) | apply Blk.set_))
        have hb1 := thn hb0 hbw1
        have cB1_0 := B1.c0; have cB1_1 := B1.c1; have fB1 := B1.frozen; have cB2_0 := B2.c0; have cB2_1 := B2.c1; have fB2 := B2.frozen
        go_wp2_with fail
        refine (hN _ hb1).mono ?_; rintro e w2 ⟨rfl, hb2⟩
        clear cB1_0 cB1_1 fB1 cB2_0 cB2_1 fB2
        replace B1 := B1.below hb2
        replace B2 := B2.below hb2
        have hb3 := thn hb1 hb2
        have cB1_0 := B1.c0; have cB1_1 := B1.c1; have fB1 := B1.frozen; have cB2_0 := B2.c0; have cB2_1 := B2.c1; have fB2 := B2.frozen
        go_wp2
        go_region
        all_goals
          go_wp2
          exact bodyPost_ret (v := serveV (bits .andNot .i64 a 128, b, 7)) (by simp [results, Tryd.results12, go_sem, serveV, cB1_0, cB1_1, cB2_0, cB2_1]) rfl ⟨rfl, by repeat (first | exact hb3 | (apply Below.setCell; rotate_left; (simp only []; omega)) | apply Below.drew | apply belowDrewN)⟩

set_option maxHeartbeats 1000000 in
theorem specNextLine_any (a b : Int) (w : World) : Calls Tryd.prog 9 #[.agg #[.int .i64 a, .int .i64 b]] w fun e w' => .returned (.int .i64 (nextL a b)) = e ∧ Below w.heap.size w w' := by
  have hI := fun W => specLinesValid_any a b W
  have hb0 := alo (Below.refl w.heap.size w) (.cells #[.int .i64 a, .int .i64 b] 24)
  have B1 := Blk.new w 24 #[.int .i64 a, .int .i64 b]
  have hbad := Lib.hid (fun h => nextL_bad (a := a) (b := b) h)
  have hsome := Lib.hid (fun k hl hk h hb => nextL_some (a := a) (b := b) (k := k) hl hk h hb)
  have hbd := fun h => linesOk_true.1 (show linesOk a b = true from h)
  skip
  skip
  go_enter Tryd.func9, Tryd.ntmps9
  go_wp2
  go_loopg [3] 8 (fun gg s3 wr => ∃ kk : Nat, kk ≤ 8 ∧ 8 - kk ≤ gg ∧ s3 = .int .i64 kk ∧ Aside (Below w.heap.size w wr) ∧ Aside (Blk wr w.heap.size 24 #[.int .i64 a, .int .i64 b]) ∧ Aside (∀ j : Nat, j < kk → rdy a b j = false))
  case atStart => exact ⟨0, Nat.zero_le _, by omega, rfl, (show Aside _ from hb0), (show Aside _ from B1), (show Aside _ from fun j hj => absurd hj (Nat.not_lt_zero _))⟩
  case round =>
    obtain ⟨kk, hkk, hg, rfl, BW, BB, AA⟩ := hrel
    clear B1 hb0
    have B1 := BB.out
    clear BB
    by_cases hlt : kk < 8
    · have hltz : (kk : Int) ≤ 7 := by omega
      cases hl : linesOk a b
      · rw [hl] at hI
        have HL := Lib.hid hl
        clear hl hbd
        have cB1_0 := B1.c0; have cB1_1 := B1.c1; have fB1 := B1.frozen
        go_wp2_with fail; refine (hI _).mono ?_; rintro e w2 ⟨rfl, hbw2⟩; replace B1 := Blk.belowOf B1 hbw2 (by repeat (first | exact B1 | apply Blk.alloc | apply Blk.drew | (apply Blk.far; rotate_left; (first | assumption | exact Ne.symm (by assumption))) | apply Blk.set_))
        go_wp2
        go_ret
        exact ⟨by rw [hbad.out HL.out]; rfl, thn BW.out hbw2⟩
      · obtain ⟨ha0, ha1, hb0, hb1⟩ := hbd hl
        rw [hl] at hI
        have HL := Lib.hid hl
        clear hl hbd
        have hA0 : 0 ≤ a / 2 ^ kk := Int.ediv_nonneg ha0 (Int.pow_nonneg (by decide))
        have hB0 : 0 ≤ b / 2 ^ kk := Int.ediv_nonneg hb0 (Int.pow_nonneg (by decide))
        have hr := Lib.hid (show rdy a b kk = (decide (a / 2 ^ kk % 2 = 1) && decide (b / 2 ^ kk % 2 = 0)) from rfl)
        by_cases hA : a / 2 ^ kk % 2 = 1
        · by_cases hB : b / 2 ^ kk % 2 = 0
          · have cB1_0 := B1.c0; have cB1_1 := B1.c1; have fB1 := B1.frozen
            go_wp2_with fail; refine (hI _).mono ?_; rintro e w2 ⟨rfl, hbw2⟩; replace B1 := Blk.belowOf B1 hbw2 (by repeat (first | exact B1 | apply Blk.alloc | apply Blk.drew | (apply Blk.far; rotate_left; (first | assumption | exact Ne.symm (by assumption))) | apply Blk.set_))
            have cB1_0 := B1.c0; have cB1_1 := B1.c1; have fB1 := B1.frozen
            go_wp2
            go_ret
            exact ⟨by rw [hsome.out kk HL.out hlt (by rw [hr.out, decide_eq_true hA, decide_eq_true hB]; rfl) AA.out]; rfl, thn BW.out hbw2⟩
          · have cB1_0 := B1.c0; have cB1_1 := B1.c1; have fB1 := B1.frozen
            go_wp2_with fail; refine (hI _).mono ?_; rintro e w2 ⟨rfl, hbw2⟩; replace B1 := Blk.belowOf B1 hbw2 (by repeat (first | exact B1 | apply Blk.alloc | apply Blk.drew | (apply Blk.far; rotate_left; (first | assumption | exact Ne.symm (by assumption))) | apply Blk.set_))
            have cB1_0 := B1.c0; have cB1_1 := B1.c1; have fB1 := B1.frozen
            go_wp2
            go_roundg (8 - (kk + 1))
            case measure => omega
            case rel => exact ⟨kk + 1, by omega, by omega, by go_num, (show Aside _ from thn BW.out hbw2), (show Aside _ from B1), (show Aside _ from fun j hj => (Nat.lt_succ_iff_lt_or_eq.1 hj).elim (AA.out j) (fun e => by rw [e, hr.out, decide_eq_false hB, Bool.and_false]))⟩
        · have cB1_0 := B1.c0; have cB1_1 := B1.c1; have fB1 := B1.frozen
          go_wp2_with fail; refine (hI _).mono ?_; rintro e w2 ⟨rfl, hbw2⟩; replace B1 := Blk.belowOf B1 hbw2 (by repeat (first | exact B1 | apply Blk.alloc | apply Blk.drew | (apply Blk.far; rotate_left; (first | assumption | exact Ne.symm (by assumption))) | apply Blk.set_))
          have cB1_0 := B1.c0; have cB1_1 := B1.c1; have fB1 := B1.frozen
          go_wp2
          go_roundg (8 - (kk + 1))
          case measure => omega
          case rel => exact ⟨kk + 1, by omega, by omega, by go_num, (show Aside _ from thn BW.out hbw2), (show Aside _ from B1), (show Aside _ from fun j hj => (Nat.lt_succ_iff_lt_or_eq.1 hj).elim (AA.out j) (fun e => by rw [e, hr.out, decide_eq_false hA, Bool.false_and]))⟩
    · obtain rfl : kk = 8 := by omega
      go_wp2
      go_ret
      exact ⟨by rw [nextL_none AA.out]; rfl, BW.out⟩

set_option maxHeartbeats 2000000 in
theorem specServeLine_any (a b : Int) (w : World)  : Calls Tryd.prog 13 #[.agg #[.int .i64 a, .int .i64 b]] w fun e w' => .returned (serveV (serveL a b)) = e ∧ Below w.heap.size w w' := by
  have hI := fun W => specLinesValid_any a b W
  have hN := fun W (_ : Below w.heap.size w W) => specNextLine_any a b W
  have hb0 := alo (alo (Below.refl w.heap.size w) (.cells #[.int .i64 a, .int .i64 b] 24)) (.cells #[.int .i64 0, .int .i64 0] 24)
  have B1 := (Blk.new w 24 #[.int .i64 a, .int .i64 b]).alloc (.cells #[.int .i64 0, .int .i64 0] 24)
  have B2 := Blk.new2 w (.cells #[.int .i64 a, .int .i64 b] 24) 24 #[.int .i64 0, .int .i64 0]
  skip
  skip
  cases hl : linesOk a b
  · have hs : serveL a b = (0, 0, -1) := by simp [serveL, hl]
    rw [hs]
    rw [hl] at hI
    clear hl hs hN
    go_enter Tryd.func13, Tryd.ntmps13
    go_wp2_with fail; refine (hI _).mono ?_; rintro e w1 ⟨rfl, hbw1⟩; replace B1 := Blk.belowOf B1 hbw1 (by repeat (first | exact B1 | apply Blk.alloc | apply Blk.drew | (apply Blk.far; rotate_left; (first | assumption | exact Ne.symm (by assumption))) | apply Blk.set_)); replace B2 := Blk.belowOf B2 hbw1 (by repeat (first | exact B2 | apply Blk.alloc | apply Blk.drew | (apply Blk.far; rotate_left; (first | assumption | exact Ne.symm (by assumption))) | apply Blk.set_))
    have hb1 := thn hb0 hbw1
    have cB1_0 := B1.c0; have cB1_1 := B1.c1; have fB1 := B1.frozen; have cB2_0 := B2.c0; have cB2_1 := B2.c1; have fB2 := B2.frozen
    go_wp2
    exact bodyPost_ret (v := serveV (0, 0, -1)) (by simp [results, Tryd.results13, go_sem, serveV, cB1_0, cB1_1, cB2_0, cB2_1]) rfl ⟨rfl, by repeat (first | exact hb1 | (apply Below.setCell; rotate_left; (simp only []; omega)))⟩
  · rw [hl] at hI
    rcases nextL_cases a b with ⟨e1, -⟩ | ⟨k, hk, e1, -⟩
    · have hs : serveL a b = (a, b, -1) := by simp [serveL, hl, e1]
      rw [hs]
      rw [e1] at hN
      clear hl hs e1
      go_enter Tryd.func13, Tryd.ntmps13
      go_wp2_with fail; refine (hI _).mono ?_; rintro e w1 ⟨rfl, hbw1⟩; replace B1 := Blk.belowOf B1 hbw1 (by repeat (first | exact B1 | apply Blk.alloc | apply Blk.drew | (apply Blk.far; rotate_left; (first | assumption | exact Ne.symm (by assumption))) | apply Blk.set_)); replace B2 := Blk.belowOf B2 hbw1 (by repeat (first | exact B2 | apply Blk.alloc | apply Blk.drew | (apply Blk.far; rotate_left; (first | assumption | exact Ne.symm (by assumption))) | apply Blk.set_))
      have hb1 := thn hb0 hbw1
      have cB1_0 := B1.c0; have cB1_1 := B1.c1; have fB1 := B1.frozen; have cB2_0 := B2.c0; have cB2_1 := B2.c1; have fB2 := B2.frozen
      go_wp2_with fail
      refine (hN _ hb1).mono ?_; rintro e w2 ⟨rfl, hb2⟩
      clear cB1_0 cB1_1 fB1 cB2_0 cB2_1 fB2
      replace B1 := B1.below hb2
      replace B2 := B2.below hb2
      have hb3 := thn hb1 hb2
      have cB1_0 := B1.c0; have cB1_1 := B1.c1; have fB1 := B1.frozen; have cB2_0 := B2.c0; have cB2_1 := B2.c1; have fB2 := B2.frozen
      go_wp2
      exact bodyPost_ret (v := serveV (a, b, -1)) (by simp [results, Tryd.results13, go_sem, serveV, cB1_0, cB1_1, cB2_0, cB2_1]) rfl ⟨rfl, by repeat (first | exact hb3 | (apply Below.setCell; rotate_left; (simp only []; omega)))⟩
    · rcases (show k = 0 ∨ k = 1 ∨ k = 2 ∨ k = 3 ∨ k = 4 ∨ k = 5 ∨ k = 6 ∨ k = 7 by omega) with hk | hk | hk | hk | hk | hk | hk | hk
      · obtain rfl : k = 0 := hk
        obtain ⟨s, hs⟩ : ∃ s, serveL a b = s := ⟨_, rfl⟩
        have hs' : s = (bits .andNot .i64 a 1, b, 0) := by
          rw [← hs]
          unfold serveL
          rw [if_pos hl, e1, if_pos (by decide)]
          rfl
        rw [hs, hs']
        clear hs hs' hl
        rw [e1] at hN
        go_enter Tryd.func13, Tryd.ntmps13
        go_wp2_with fail; refine (hI _).mono ?_; rintro e w1 ⟨rfl, hbw1⟩; replace B1 := Blk.belowOf B1 hbw1 (by repeat (first | exact B1 | apply Blk.alloc | apply Blk.drew | (apply Blk.far; rotate_left; (first | assumption | exact Ne.symm (by assumption))) | apply Blk.set_)); replace B2 := Blk.belowOf B2 hbw1 (by repeat (first | exact B2 | apply Blk.alloc | apply Blk.drew | (apply Blk.far; rotate_left; (first | assumption | exact Ne.symm (by assumption))) | apply Blk.set_))
        have hb1 := thn hb0 hbw1
        have cB1_0 := B1.c0; have cB1_1 := B1.c1; have fB1 := B1.frozen; have cB2_0 := B2.c0; have cB2_1 := B2.c1; have fB2 := B2.frozen
        go_wp2_with fail
        refine (hN _ hb1).mono ?_; rintro e w2 ⟨rfl, hb2⟩
        clear cB1_0 cB1_1 fB1 cB2_0 cB2_1 fB2
        replace B1 := B1.below hb2
        replace B2 := B2.below hb2
        have hb3 := thn hb1 hb2
        have cB1_0 := B1.c0; have cB1_1 := B1.c1; have fB1 := B1.frozen; have cB2_0 := B2.c0; have cB2_1 := B2.c1; have fB2 := B2.frozen
        go_wp2
        go_region
        all_goals
          go_wp2
          exact bodyPost_ret (v := serveV (bits .andNot .i64 a 1, b, 0)) (by simp [results, Tryd.results13, go_sem, serveV, cB1_0, cB1_1, cB2_0, cB2_1]) rfl ⟨rfl, by repeat (first | exact hb3 | (apply Below.setCell; rotate_left; (simp only []; omega)) | apply Below.drew | apply belowDrewN)⟩
      · obtain rfl : k = 1 := hk
        obtain ⟨s, hs⟩ : ∃ s, serveL a b = s := ⟨_, rfl⟩
        have hs' : s = (bits .andNot .i64 a 2, b, 1) := by
          rw [← hs]
          unfold serveL
          rw [if_pos hl, e1, if_pos (by decide)]
          rfl
        rw [hs, hs']
        clear hs hs' hl
        rw [e1] at hN
        go_enter Tryd.func13, Tryd.ntmps13
        go_wp2_with fail; refine (hI _).mono ?_; rintro e w1 ⟨rfl, hbw1⟩; replace B1 := Blk.belowOf B1 hbw1 (by repeat (first | exact B1 | apply Blk.alloc | apply Blk.drew | (apply Blk.far; rotate_left; (first | assumption | exact Ne.symm (by assumption))) | apply Blk.set_)); replace B2 := Blk.belowOf B2 hbw1 (by repeat (first | exact B2 | apply Blk.alloc | apply Blk.drew | (apply Blk.far; rotate_left; (first | assumption | exact Ne.symm (by assumption))) | apply Blk.set_))
        have hb1 := thn hb0 hbw1
        have cB1_0 := B1.c0; have cB1_1 := B1.c1; have fB1 := B1.frozen; have cB2_0 := B2.c0; have cB2_1 := B2.c1; have fB2 := B2.frozen
        go_wp2_with fail
        refine (hN _ hb1).mono ?_; rintro e w2 ⟨rfl, hb2⟩
        clear cB1_0 cB1_1 fB1 cB2_0 cB2_1 fB2
        replace B1 := B1.below hb2
        replace B2 := B2.below hb2
        have hb3 := thn hb1 hb2
        have cB1_0 := B1.c0; have cB1_1 := B1.c1; have fB1 := B1.frozen; have cB2_0 := B2.c0; have cB2_1 := B2.c1; have fB2 := B2.frozen
        go_wp2
        go_region
        all_goals
          go_wp2
          exact bodyPost_ret (v := serveV (bits .andNot .i64 a 2, b, 1)) (by simp [results, Tryd.results13, go_sem, serveV, cB1_0, cB1_1, cB2_0, cB2_1]) rfl ⟨rfl, by repeat (first | exact hb3 | (apply Below.setCell; rotate_left; (simp only []; omega)) | apply Below.drew | apply belowDrewN)⟩
      · obtain rfl : k = 2 := hk
        obtain ⟨s, hs⟩ : ∃ s, serveL a b = s := ⟨_, rfl⟩
        have hs' : s = (bits .andNot .i64 a 4, b, 2) := by
          rw [← hs]
          unfold serveL
          rw [if_pos hl, e1, if_pos (by decide)]
          rfl
        rw [hs, hs']
        clear hs hs' hl
        rw [e1] at hN
        go_enter Tryd.func13, Tryd.ntmps13
        go_wp2_with fail; refine (hI _).mono ?_; rintro e w1 ⟨rfl, hbw1⟩; replace B1 := Blk.belowOf B1 hbw1 (by repeat (first | exact B1 | apply Blk.alloc | apply Blk.drew | (apply Blk.far; rotate_left; (first | assumption | exact Ne.symm (by assumption))) | apply Blk.set_)); replace B2 := Blk.belowOf B2 hbw1 (by repeat (first | exact B2 | apply Blk.alloc | apply Blk.drew | (apply Blk.far; rotate_left; (first | assumption | exact Ne.symm (by assumption))) | apply Blk.set_))
        have hb1 := thn hb0 hbw1
        have cB1_0 := B1.c0; have cB1_1 := B1.c1; have fB1 := B1.frozen; have cB2_0 := B2.c0; have cB2_1 := B2.c1; have fB2 := B2.frozen
        go_wp2_with fail
        refine (hN _ hb1).mono ?_; rintro e w2 ⟨rfl, hb2⟩
        clear cB1_0 cB1_1 fB1 cB2_0 cB2_1 fB2
        replace B1 := B1.below hb2
        replace B2 := B2.below hb2
        have hb3 := thn hb1 hb2
        have cB1_0 := B1.c0; have cB1_1 := B1.c1; have fB1 := B1.frozen; have cB2_0 := B2.c0; have cB2_1 := B2.c1; have fB2 := B2.frozen
        go_wp2
        go_region
        all_goals
          go_wp2
          exact bodyPost_ret (v := serveV (bits .andNot .i64 a 4, b, 2)) (by simp [results, Tryd.results13, go_sem, serveV, cB1_0, cB1_1, cB2_0, cB2_1]) rfl ⟨rfl, by repeat (first | exact hb3 | (apply Below.setCell; rotate_left; (simp only []; omega)) | apply Below.drew | apply belowDrewN)⟩
      · obtain rfl : k = 3 := hk
        obtain ⟨s, hs⟩ : ∃ s, serveL a b = s := ⟨_, rfl⟩
        have hs' : s = (bits .andNot .i64 a 8, b, 3) := by
          rw [← hs]
          unfold serveL
          rw [if_pos hl, e1, if_pos (by decide)]
          rfl
        rw [hs, hs']
        clear hs hs' hl
        rw [e1] at hN
        go_enter Tryd.func13, Tryd.ntmps13
        go_wp2_with fail; refine (hI _).mono ?_; rintro e w1 ⟨rfl, hbw1⟩; replace B1 := Blk.belowOf B1 hbw1 (by repeat (first | exact B1 | apply Blk.alloc | apply Blk.drew | (apply Blk.far; rotate_left; (first | assumption | exact Ne.symm (by assumption))) | apply Blk.set_)); replace B2 := Blk.belowOf B2 hbw1 (by repeat (first | exact B2 | apply Blk.alloc | apply Blk.drew | (apply Blk.far; rotate_left; (first | assumption | exact Ne.symm (by assumption))) | apply Blk.set_))
        have hb1 := thn hb0 hbw1
        have cB1_0 := B1.c0; have cB1_1 := B1.c1; have fB1 := B1.frozen; have cB2_0 := B2.c0; have cB2_1 := B2.c1; have fB2 := B2.frozen
        go_wp2_with fail
        refine (hN _ hb1).mono ?_; rintro e w2 ⟨rfl, hb2⟩
        clear cB1_0 cB1_1 fB1 cB2_0 cB2_1 fB2
        replace B1 := B1.below hb2
        replace B2 := B2.below hb2
        have hb3 := thn hb1 hb2
        have cB1_0 := B1.c0; have cB1_1 := B1.c1; have fB1 := B1.frozen; have cB2_0 := B2.c0; have cB2_1 := B2.c1; have fB2 := B2.frozen
        go_wp2
        go_region
        all_goals
          go_wp2
          exact bodyPost_ret (v := serveV (bits .andNot .i64 a 8, b, 3)) (by simp [results, Tryd.results13, go_sem, serveV, cB1_0, cB1_1, cB2_0, cB2_1]) rfl ⟨rfl, by repeat (first | exact hb3 | (apply Below.setCell; rotate_left; (simp only []; omega)) | apply Below.drew | apply belowDrewN)⟩
      · obtain rfl : k = 4 := hk
        obtain ⟨s, hs⟩ : ∃ s, serveL a b = s := ⟨_, rfl⟩
        have hs' : s = (bits .andNot .i64 a 16, b, 4) := by
          rw [← hs]
          unfold serveL
          rw [if_pos hl, e1, if_pos (by decide)]
          rfl
        rw [hs, hs']
        clear hs hs' hl
        rw [e1] at hN
        go_enter Tryd.func13, Tryd.ntmps13
        go_wp2_with fail; refine (hI _).mono ?_; rintro e w1 ⟨rfl, hbw1⟩; replace B1 := Blk.belowOf B1 hbw1 (by repeat (first | exact B1 | apply Blk.alloc | apply Blk.drew | (apply Blk.far; rotate_left; (first | assumption | exact Ne.symm (by assumption))) | apply Blk.set_)); replace B2 := Blk.belowOf B2 hbw1 (by repeat (first | exact B2 | apply Blk.alloc | apply Blk.drew | (apply Blk.far; rotate_left; (first | assumption | exact Ne.symm (by assumption))) | apply Blk.set_))
        have hb1 := thn hb0 hbw1
        have cB1_0 := B1.c0; have cB1_1 := B1.c1; have fB1 := B1.frozen; have cB2_0 := B2.c0; have cB2_1 := B2.c1; have fB2 := B2.frozen
        go_wp2_with fail
        refine (hN _ hb1).mono ?_; rintro e w2 ⟨rfl, hb2⟩
        clear cB1_0 cB1_1 fB1 cB2_0 cB2_1 fB2
        replace B1 := B1.below hb2
        replace B2 := B2.below hb2
        have hb3 := thn hb1 hb2
        have cB1_0 := B1.c0; have cB1_1 := B1.c1; have fB1 := B1.frozen; have cB2_0 := B2.c0; have cB2_1 := B2.c1; have fB2 := B2.frozen
        go_wp2
        go_region
        all_goals
          go_wp2
          exact bodyPost_ret (v := serveV (bits .andNot .i64 a 16, b, 4)) (by simp [results, Tryd.results13, go_sem, serveV, cB1_0, cB1_1, cB2_0, cB2_1]) rfl ⟨rfl, by repeat (first | exact hb3 | (apply Below.setCell; rotate_left; (simp only []; omega)) | apply Below.drew | apply belowDrewN)⟩
      · obtain rfl : k = 5 := hk
        obtain ⟨s, hs⟩ : ∃ s, serveL a b = s := ⟨_, rfl⟩
        have hs' : s = (bits .andNot .i64 a 32, b, 5) := by
          rw [← hs]
          unfold serveL
          rw [if_pos hl, e1, if_pos (by decide)]
          rfl
        rw [hs, hs']
        clear hs hs' hl
        rw [e1] at hN
        go_enter Tryd.func13, Tryd.ntmps13
        go_wp2_with fail; refine (hI _).mono ?_; rintro e w1 ⟨rfl, hbw1⟩; replace B1 := Blk.belowOf B1 hbw1 (by repeat (first | exact B1 | apply Blk.alloc | apply Blk.drew | (apply Blk.far; rotate_left; (first | assumption | exact Ne.symm (by assumption))) | apply Blk.set_)); replace B2 := Blk.belowOf B2 hbw1 (by repeat (first | exact B2 | apply Blk.alloc | apply Blk.drew | (apply Blk.far; rotate_left; (first | assumption | exact Ne.symm (by assumption))) | apply Blk.set_))
        have hb1 := thn hb0 hbw1
        have cB1_0 := B1.c0; have cB1_1 := B1.c1; have fB1 := B1.frozen; have cB2_0 := B2.c0; have cB2_1 := B2.c1; have fB2 := B2.frozen
        go_wp2_with fail
        refine (hN _ hb1).mono ?_; rintro e w2 ⟨rfl, hb2⟩
        clear cB1_0 cB1_1 fB1 cB2_0 cB2_1 fB2
        replace B1 := B1.below hb2
        replace B2 := B2.below hb2
        have hb3 := thn hb1 hb2
        have cB1_0 := B1.c0; have cB1_1 := B1.c1; have fB1 := B1.frozen; have cB2_0 := B2.c0; have cB2_1 := B2.c1; have fB2 := B2.frozen
        go_wp2
        go_region
        all_goals
          go_wp2
          exact bodyPost_ret (v := serveV (bits .andNot .i64 a 32, b, 5)) (by simp [results, Tryd.results13, go_sem, serveV, cB1_0, cB1_1, cB2_0, cB2_1]) rfl ⟨rfl, by repeat (first | exact hb3 | (apply Below.setCell; rotate_left; (simp only []; omega)) | apply Below.drew | apply belowDrewN)⟩
      · obtain rfl : k = 6 := hk
        obtain ⟨s, hs⟩ : ∃ s, serveL a b = s := ⟨_, rfl⟩
        have hs' : s = (bits .andNot .i64 a 64, b, 6) := by
          rw [← hs]
          unfold serveL
          rw [if_pos hl, e1, if_pos (by decide)]
          rfl
        rw [hs, hs']
        clear hs hs' hl
        rw [e1] at hN
        go_enter Tryd.func13, Tryd.ntmps13
        go_wp2_with fail; refine (hI _).mono ?_; rintro e w1 ⟨rfl, hbw1⟩; replace B1 := Blk.belowOf B1 hbw1 (by repeat (first | exact B1 | apply Blk.alloc | apply Blk.drew | (apply Blk.far; rotate_left; (first | assumption | exact Ne.symm (by assumption))) | apply Blk.set_)); replace B2 := Blk.belowOf B2 hbw1 (by repeat (first | exact B2 | apply Blk.alloc | apply Blk.drew | (apply Blk.far; rotate_left; (first | assumption | exact Ne.symm (by assumption))) | apply Blk.set_))
        have hb1 := thn hb0 hbw1
        have cB1_0 := B1.c0; have cB1_1 := B1.c1; have fB1 := B1.frozen; have cB2_0 := B2.c0; have cB2_1 := B2.c1; have fB2 := B2.frozen
        go_wp2_with fail
        refine (hN _ hb1).mono ?_; rintro e w2 ⟨rfl, hb2⟩
        clear cB1_0 cB1_1 fB1 cB2_0 cB2_1 fB2
        replace B1 := B1.below hb2
        replace B2 := B2.below hb2
        have hb3 := thn hb1 hb2
        have cB1_0 := B1.c0; have cB1_1 := B1.c1; have fB1 := B1.frozen; have cB2_0 := B2.c0; have cB2_1 := B2.c1; have fB2 := B2.frozen
        go_wp2
        go_region
        all_goals
          go_wp2
          exact bodyPost_ret (v := serveV (bits .andNot .i64 a 64, b, 6)) (by simp [results, Tryd.results13, go_sem, serveV, cB1_0, cB1_1, cB2_0, cB2_1]) rfl ⟨rfl, by repeat (first | exact hb3 | (apply Below.setCell; rotate_left; (simp only []; omega)) | apply Below.drew | apply belowDrewN)⟩
      · obtain rfl : k = 7 := hk
        obtain ⟨s, hs⟩ : ∃ s, serveL a b = s := ⟨_, rfl⟩
        have hs' : s = (bits .andNot .i64 a 128, b, 7) := by
          rw [← hs]
          unfold serveL
          rw [if_pos hl, e1, if_pos (by decide)]
          rfl
        rw [hs, hs']
        clear hs hs' hl
        rw [e1] at hN
        go_enter Tryd.func13, Tryd.ntmps13
        go_wp2_with fail; refine (hI _).mono ?_; rintro e w1 ⟨rfl, hbw1⟩; replace B1 := Blk.belowOf B1 hbw1 (by repeat (first | exact B1 | apply Blk.alloc | apply Blk.drew | (apply Blk.far; rotate_left; (first | assumption | exact Ne.symm (by assumption))) | apply Blk.set_)); replace B2 := Blk.belowOf B2 hbw1 (by repeat (first | exact B2 | apply Blk.alloc | apply Blk.drew | (apply Blk.far; rotate_left; (first | assumption | exact Ne.symm (by assumption))) | apply Blk.set_))
        have hb1 := thn hb0 hbw1
        have cB1_0 := B1.c0; have cB1_1 := B1.c1; have fB1 := B1.frozen; have cB2_0 := B2.c0; have cB2_1 := B2.c1; have fB2 := B2.frozen
        go_wp2_with fail
        refine (hN _ hb1).mono ?_; rintro e w2 ⟨rfl, hb2⟩
        clear cB1_0 cB1_1 fB1 cB2_0 cB2_1 fB2
        replace B1 := B1.below hb2
        replace B2 := B2.below hb2
        have hb3 := thn hb1 hb2
        have cB1_0 := B1.c0; have cB1_1 := B1.c1; have fB1 := B1.frozen; have cB2_0 := B2.c0; have cB2_1 := B2.c1; have fB2 := B2.frozen
        go_wp2
        go_region
        all_goals
          go_wp2
          exact bodyPost_ret (v := serveV (bits .andNot .i64 a 128, b, 7)) (by simp [results, Tryd.results13, go_sem, serveV, cB1_0, cB1_1, cB2_0, cB2_1]) rfl ⟨rfl, by repeat (first | exact hb3 | (apply Below.setCell; rotate_left; (simp only []; omega)) | apply Below.drew | apply belowDrewN)⟩

set_option maxHeartbeats 2000000 in
theorem raiseLine_any (a b n : Int) (w : World) : Calls Tryd.prog 14 #[.agg #[.int .i64 a, .int .i64 b], .int .i64 n] w fun e w' => .returned (lnV (raiseL a b n)) = e ∧ Below w.heap.size w w' := by
  have hI := fun W => linesValid_any a b W
  have hJ := fun W => in_any n 0 7 W
  have hb0 := alo (alo (Below.refl w.heap.size w) (.cells #[.int .i64 a, .int .i64 b] 24)) (.cells #[.int .i64 0, .int .i64 0] 24)
  have B1 := (Blk.new w 24 #[.int .i64 a, .int .i64 b]).alloc (.cells #[.int .i64 0, .int .i64 0] 24)
  have B2 := Blk.new2 w (.cells #[.int .i64 a, .int .i64 b] 24) 24 #[.int .i64 0, .int .i64 0]
  skip
  skip
  cases hl : linesOk a b
  · rw [hl] at hI
    have hs : raiseL a b n = (0, 0) := by unfold raiseL; rw [if_neg (by rintro ⟨h1, h2⟩; first | (rw [hl] at h1; exact absurd h1 (by decide)) | (rw [hn] at h2; exact absurd h2 (by decide)))]
    rw [hs]
    clear hs
    go_enter Tryd.func14, Tryd.ntmps14
    go_wp2_with fail; refine (hI _).mono ?_; rintro e w1 ⟨rfl, hbw1⟩; replace B1 := Blk.belowOf B1 hbw1 (by repeat (first | exact B1 | apply Blk.alloc | apply Blk.drew | (apply Blk.far; rotate_left; (first | assumption | exact Ne.symm (by assumption))) | apply Blk.set_)); replace B2 := Blk.belowOf B2 hbw1 (by repeat (first | exact B2 | apply Blk.alloc | apply Blk.drew | (apply Blk.far; rotate_left; (first | assumption | exact Ne.symm (by assumption))) | apply Blk.set_))
    have hb1 := thn hb0 hbw1
    have cB1_0 := B1.c0; have cB1_1 := B1.c1; have fB1 := B1.frozen; have cB2_0 := B2.c0; have cB2_1 := B2.c1; have fB2 := B2.frozen
    go_wp2_with fail
    try (refine (hJ _).mono ?_; rintro e w' ⟨rfl, rfl⟩; go_wp2)
    exact bodyPost_ret (v := lnV (0, 0)) (by simp [results, Tryd.results14, go_sem, lnV, cB1_0, cB1_1, cB2_0, cB2_1]) rfl ⟨rfl, by repeat (first | exact hb1 | (apply Below.setCell; rotate_left; (simp only []; omega)))⟩
  · rw [hl] at hI
    cases hn : inB n 0 7
    · rw [hn] at hJ
      have hs : raiseL a b n = (0, 0) := by unfold raiseL; rw [if_neg (by rintro ⟨h1, h2⟩; first | (rw [hl] at h1; exact absurd h1 (by decide)) | (rw [hn] at h2; exact absurd h2 (by decide)))]
      rw [hs]
      clear hs
      go_enter Tryd.func14, Tryd.ntmps14
      go_wp2_with fail; refine (hI _).mono ?_; rintro e w1 ⟨rfl, hbw1⟩; replace B1 := Blk.belowOf B1 hbw1 (by repeat (first | exact B1 | apply Blk.alloc | apply Blk.drew | (apply Blk.far; rotate_left; (first | assumption | exact Ne.symm (by assumption))) | apply Blk.set_)); replace B2 := Blk.belowOf B2 hbw1 (by repeat (first | exact B2 | apply Blk.alloc | apply Blk.drew | (apply Blk.far; rotate_left; (first | assumption | exact Ne.symm (by assumption))) | apply Blk.set_))
      have hb1 := thn hb0 hbw1
      have cB1_0 := B1.c0; have cB1_1 := B1.c1; have fB1 := B1.frozen; have cB2_0 := B2.c0; have cB2_1 := B2.c1; have fB2 := B2.frozen
      go_wp2_with fail
      try (refine (hJ _).mono ?_; rintro e w' ⟨rfl, rfl⟩; go_wp2)
      exact bodyPost_ret (v := lnV (0, 0)) (by simp [results, Tryd.results14, go_sem, lnV, cB1_0, cB1_1, cB2_0, cB2_1]) rfl ⟨rfl, by repeat (first | exact hb1 | (apply Below.setCell; rotate_left; (simp only []; omega)))⟩
    · rw [hn] at hJ
      rw [inB_true] at hn
      rcases (show n = 0 ∨ n = 1 ∨ n = 2 ∨ n = 3 ∨ n = 4 ∨ n = 5 ∨ n = 6 ∨ n = 7 by omega) with hk | hk | hk | hk | hk | hk | hk | hk
      · obtain rfl : n = 0 := hk
        have hs : raiseL a b 0 = (bits .or .i64 a 1, b) := by
          unfold raiseL
          rw [if_pos ⟨hl, by decide⟩]
          rfl
        rw [hs]
        clear hs hl
        go_enter Tryd.func14, Tryd.ntmps14
        go_wp2_with fail; refine (hI _).mono ?_; rintro e w1 ⟨rfl, hbw1⟩; replace B1 := Blk.belowOf B1 hbw1 (by repeat (first | exact B1 | apply Blk.alloc | apply Blk.drew | (apply Blk.far; rotate_left; (first | assumption | exact Ne.symm (by assumption))) | apply Blk.set_)); replace B2 := Blk.belowOf B2 hbw1 (by repeat (first | exact B2 | apply Blk.alloc | apply Blk.drew | (apply Blk.far; rotate_left; (first | assumption | exact Ne.symm (by assumption))) | apply Blk.set_))
        have hb1 := thn hb0 hbw1
        have cB1_0 := B1.c0; have cB1_1 := B1.c1; have fB1 := B1.frozen; have cB2_0 := B2.c0; have cB2_1 := B2.c1; have fB2 := B2.frozen
        go_wp2_with fail
        try (refine (hJ _).mono ?_; rintro e w' ⟨rfl, rfl⟩; go_wp2)
        go_region
        all_goals
          go_wp2
          exact bodyPost_ret (v := lnV (bits .or .i64 a 1, b)) (by simp [results, Tryd.results14, go_sem, lnV, cB1_0, cB1_1, cB2_0, cB2_1]) rfl ⟨rfl, by repeat (first | exact hb1 | (apply Below.setCell; rotate_left; (simp only []; omega)) | apply Below.drew | apply belowDrewN)⟩
      · obtain rfl : n = 1 := hk
        have hs : raiseL a b 1 = (bits .or .i64 a 2, b) := by
          unfold raiseL
          rw [if_pos ⟨hl, by decide⟩]
          rfl
        rw [hs]
        clear hs hl
        go_enter Tryd.func14, Tryd.ntmps14
        go_wp2_with fail; refine (hI _).mono ?_; rintro e w1 ⟨rfl, hbw1⟩; replace B1 := Blk.belowOf B1 hbw1 (by repeat (first | exact B1 | apply Blk.alloc | apply Blk.drew | (apply Blk.far; rotate_left; (first | assumption | exact Ne.symm (by assumption))) | apply Blk.set_)); replace B2 := Blk.belowOf B2 hbw1 (by repeat (first | exact B2 | apply Blk.alloc | apply Blk.drew | (apply Blk.far; rotate_left; (first | assumption | exact Ne.symm (by assumption))) | apply Blk.set_))
        have hb1 := thn hb0 hbw1
        have cB1_0 := B1.c0; have cB1_1 := B1.c1; have fB1 := B1.frozen; have cB2_0 := B2.c0; have cB2_1 := B2.c1; have fB2 := B2.frozen
        go_wp2_with fail
        try (refine (hJ _).mono ?_; rintro e w' ⟨rfl, rfl⟩; go_wp2)
        go_region
        all_goals
          go_wp2
          exact bodyPost_ret (v := lnV (bits .or .i64 a 2, b)) (by simp [results, Tryd.results14, go_sem, lnV, cB1_0, cB1_1, cB2_0, cB2_1]) rfl ⟨rfl, by repeat (first | exact hb1 | (apply Below.setCell; rotate_left; (simp only []; omega)) | apply Below.drew | apply belowDrewN)⟩
      · obtain rfl : n = 2 := hk
        have hs : raiseL a b 2 = (bits .or .i64 a 4, b) := by
          unfold raiseL
          rw [if_pos ⟨hl, by decide⟩]
          rfl
        rw [hs]
        clear hs hl
        go_enter Tryd.func14, Tryd.ntmps14
        go_wp2_with fail; refine (hI _).mono ?_; rintro e w1 ⟨rfl, hbw1⟩; replace B1 := Blk.belowOf B1 hbw1 (by repeat (first | exact B1 | apply Blk.alloc | apply Blk.drew | (apply Blk.far; rotate_left; (first | assumption | exact Ne.symm (by assumption))) | apply Blk.set_)); replace B2 := Blk.belowOf B2 hbw1 (by repeat (first | exact B2 | apply Blk.alloc | apply Blk.drew | (apply Blk.far; rotate_left; (first | assumption | exact Ne.symm (by assumption))) | apply Blk.set_))
        have hb1 := thn hb0 hbw1
        have cB1_0 := B1.c0; have cB1_1 := B1.c1; have fB1 := B1.frozen; have cB2_0 := B2.c0; have cB2_1 := B2.c1; have fB2 := B2.frozen
        go_wp2_with fail
        try (refine (hJ _).mono ?_; rintro e w' ⟨rfl, rfl⟩; go_wp2)
        go_region
        all_goals
          go_wp2
          exact bodyPost_ret (v := lnV (bits .or .i64 a 4, b)) (by simp [results, Tryd.results14, go_sem, lnV, cB1_0, cB1_1, cB2_0, cB2_1]) rfl ⟨rfl, by repeat (first | exact hb1 | (apply Below.setCell; rotate_left; (simp only []; omega)) | apply Below.drew | apply belowDrewN)⟩
      · obtain rfl : n = 3 := hk
        have hs : raiseL a b 3 = (bits .or .i64 a 8, b) := by
          unfold raiseL
          rw [if_pos ⟨hl, by decide⟩]
          rfl
        rw [hs]
        clear hs hl
        go_enter Tryd.func14, Tryd.ntmps14
        go_wp2_with fail; refine (hI _).mono ?_; rintro e w1 ⟨rfl, hbw1⟩; replace B1 := Blk.belowOf B1 hbw1 (by repeat (first | exact B1 | apply Blk.alloc | apply Blk.drew | (apply Blk.far; rotate_left; (first | assumption | exact Ne.symm (by assumption))) | apply Blk.set_)); replace B2 := Blk.belowOf B2 hbw1 (by repeat (first | exact B2 | apply Blk.alloc | apply Blk.drew | (apply Blk.far; rotate_left; (first | assumption | exact Ne.symm (by assumption))) | apply Blk.set_))
        have hb1 := thn hb0 hbw1
        have cB1_0 := B1.c0; have cB1_1 := B1.c1; have fB1 := B1.frozen; have cB2_0 := B2.c0; have cB2_1 := B2.c1; have fB2 := B2.frozen
        go_wp2_with fail
        try (refine (hJ _).mono ?_; rintro e w' ⟨rfl, rfl⟩; go_wp2)
        go_region
        all_goals
          go_wp2
          exact bodyPost_ret (v := lnV (bits .or .i64 a 8, b)) (by simp [results, Tryd.results14, go_sem, lnV, cB1_0, cB1_1, cB2_0, cB2_1]) rfl ⟨rfl, by repeat (first | exact hb1 | (apply Below.setCell; rotate_left; (simp only []; omega)) | apply Below.drew | apply belowDrewN)⟩
      · obtain rfl : n = 4 := hk
        have hs : raiseL a b 4 = (bits .or .i64 a 16, b) := by
          unfold raiseL
          rw [if_pos ⟨hl, by decide⟩]
          rfl
        rw [hs]
        clear hs hl
        go_enter Tryd.func14, Tryd.ntmps14
        go_wp2_with fail; refine (hI _).mono ?_; rintro e w1 ⟨rfl, hbw1⟩; replace B1 := Blk.belowOf B1 hbw1 (by repeat (first | exact B1 | apply Blk.alloc | apply Blk.drew | (apply Blk.far; rotate_left; (first | assumption | exact Ne.symm (by assumption))) | apply Blk.set_)); replace B2 := Blk.belowOf B2 hbw1 (by repeat (first | exact B2 | apply Blk.alloc | apply Blk.drew | (apply Blk.far; rotate_left; (first | assumption | exact Ne.symm (by assumption))) | apply Blk.set_))
        have hb1 := thn hb0 hbw1
        have cB1_0 := B1.c0; have cB1_1 := B1.c1; have fB1 := B1.frozen; have cB2_0 := B2.c0; have cB2_1 := B2.c1; have fB2 := B2.frozen
        go_wp2_with fail
        try (refine (hJ _).mono ?_; rintro e w' ⟨rfl, rfl⟩; go_wp2)
        go_region
        all_goals
          go_wp2
          exact bodyPost_ret (v := lnV (bits .or .i64 a 16, b)) (by simp [results, Tryd.results14, go_sem, lnV, cB1_0, cB1_1, cB2_0, cB2_1]) rfl ⟨rfl, by repeat (first | exact hb1 | (apply Below.setCell; rotate_left; (simp only []; omega)) | apply Below.drew | apply belowDrewN)⟩
      · obtain rfl : n = 5 := hk
        have hs : raiseL a b 5 = (bits .or .i64 a 32, b) := by
          unfold raiseL
          rw [if_pos ⟨hl, by decide⟩]
          rfl
        rw [hs]
        clear hs hl
        go_enter Tryd.func14, Tryd.ntmps14
        go_wp2_with fail; refine (hI _).mono ?_; rintro e w1 ⟨rfl, hbw1⟩; replace B1 := Blk.belowOf B1 hbw1 (by repeat (first | exact B1 | apply Blk.alloc | apply Blk.drew | (apply Blk.far; rotate_left; (first | assumption | exact Ne.symm (by assumption))) | apply Blk.set_)); replace B2 := Blk.belowOf B2 hbw1 (by repeat (first | exact B2 | apply Blk.alloc | apply Blk.drew | (apply Blk.far; rotate_left; (first | assumption | exact Ne.symm (by assumption))) | apply Blk.set_))
        have hb1 := thn hb0 hbw1
        have cB1_0 := B1.c0; have cB1_1 := B1.c1; have fB1 := B1.frozen; have cB2_0 := B2.c0; have cB2_1 := B2.c1; have fB2 := B2.frozen
        go_wp2_with fail
        try (refine (hJ _).mono ?_; rintro e w' ⟨rfl, rfl⟩; go_wp2)
        go_region
        all_goals
          go_wp2
          exact bodyPost_ret (v := lnV (bits .or .i64 a 32, b)) (by simp [results, Tryd.results14, go_sem, lnV, cB1_0, cB1_1, cB2_0, cB2_1]) rfl ⟨rfl, by repeat (first | exact hb1 | (apply Below.setCell; rotate_left; (simp only []; omega)) | apply Below.drew | apply belowDrewN)⟩
      · obtain rfl : n = 6 := hk
        have hs : raiseL a b 6 = (bits .or .i64 a 64, b) := by
          unfold raiseL
          rw [if_pos ⟨hl, by decide⟩]
          rfl
        rw [hs]
        clear hs hl
        go_enter Tryd.func14, Tryd.ntmps14
        go_wp2_with fail; refine (hI _).mono ?_; rintro e w1 ⟨rfl, hbw1⟩; replace B1 := Blk.belowOf B1 hbw1 (by repeat (first | exact B1 | apply Blk.alloc | apply Blk.drew | (apply Blk.far; rotate_left; (first | assumption | exact Ne.symm (by assumption))) | apply Blk.set_)); replace B2 := Blk.belowOf B2 hbw1 (by repeat (first | exact B2 | apply Blk.alloc | apply Blk.drew | (apply Blk.far; rotate_left; (first | assumption | exact Ne.symm (by assumption))) | apply Blk.set_))
        have hb1 := thn hb0 hbw1
        have cB1_0 := B1.c0; have cB1_1 := B1.c1; have fB1 := B1.frozen; have cB2_0 := B2.c0; have cB2_1 := B2.c1; have fB2 := B2.frozen
        go_wp2_with fail
        try (refine (hJ _).mono ?_; rintro e w' ⟨rfl, rfl⟩; go_wp2)
        go_region
        all_goals
          go_wp2
          exact bodyPost_ret (v := lnV (bits .or .i64 a 64, b)) (by simp [results, Tryd.results14, go_sem, lnV, cB1_0, cB1_1, cB2_0, cB2_1]) rfl ⟨rfl, by repeat (first | exact hb1 | (apply Below.setCell; rotate_left; (simp only []; omega)) | apply Below.drew | apply belowDrewN)⟩
      · obtain rfl : n = 7 := hk
        have hs : raiseL a b 7 = (bits .or .i64 a 128, b) := by
          unfold raiseL
          rw [if_pos ⟨hl, by decide⟩]
          rfl
        rw [hs]
        clear hs hl
        go_enter Tryd.func14, Tryd.ntmps14
        go_wp2_with fail; refine (hI _).mono ?_; rintro e w1 ⟨rfl, hbw1⟩; replace B1 := Blk.belowOf B1 hbw1 (by repeat (first | exact B1 | apply Blk.alloc | apply Blk.drew | (apply Blk.far; rotate_left; (first | assumption | exact Ne.symm (by assumption))) | apply Blk.set_)); replace B2 := Blk.belowOf B2 hbw1 (by repeat (first | exact B2 | apply Blk.alloc | apply Blk.drew | (apply Blk.far; rotate_left; (first | assumption | exact Ne.symm (by assumption))) | apply Blk.set_))
        have hb1 := thn hb0 hbw1
        have cB1_0 := B1.c0; have cB1_1 := B1.c1; have fB1 := B1.frozen; have cB2_0 := B2.c0; have cB2_1 := B2.c1; have fB2 := B2.frozen
        go_wp2_with fail
        try (refine (hJ _).mono ?_; rintro e w' ⟨rfl, rfl⟩; go_wp2)
        go_region
        all_goals
          go_wp2
          exact bodyPost_ret (v := lnV (bits .or .i64 a 128, b)) (by simp [results, Tryd.results14, go_sem, lnV, cB1_0, cB1_1, cB2_0, cB2_1]) rfl ⟨rfl, by repeat (first | exact hb1 | (apply Below.setCell; rotate_left; (simp only []; omega)) | apply Below.drew | apply belowDrewN)⟩

theorem l9Ok_any (a b n : Int) (w : World) : Calls Tryd.prog 29 #[.agg #[.int .i64 a, .int .i64 b], .int .i64 n] w fun e w' => .returned (.bool (linesOk a b && inB n 0 7)) = e ∧ Below w.heap.size w w' := by
  have hI := fun W => specLinesValid_any a b W
  have hJ := fun W => l1In_any n 0 7 W
  generalize linesOk a b = v1 at *
  generalize inB n 0 7 = v2 at *
  have hb0 := alo (Below.refl w.heap.size w) (.cells #[.int .i64 a, .int .i64 b] 24)
  have B1 := Blk.new w 24 #[.int .i64 a, .int .i64 b]
  skip
  skip
  have cB1_0 := B1.c0; have cB1_1 := B1.c1; have fB1 := B1.frozen
  cases v1 <;> cases v2
  all_goals
    go_enter Tryd.func29, Tryd.ntmps29
    go_wp2_with fail
    refine (hI _).mono ?_; rintro e w1 ⟨rfl, hb1⟩
    go_wp2_with fail
    try (refine (hJ _).mono ?_; rintro e w' ⟨rfl, rfl⟩; go_wp2)
    go_ret
    exact ⟨rfl, thn hb0 hb1⟩

set_option maxHeartbeats 2000000 in
theorem specRaiseLine_any (a b n : Int) (w : World) : Calls Tryd.prog 20 #[.agg #[.int .i64 a, .int .i64 b], .int .i64 n] w fun e w' => .returned (lnV (raiseL a b n)) = e ∧ Below w.heap.size w w' := by
  have hI := fun W => l9Ok_any a b n W
  have hb0 := alo (alo (Below.refl w.heap.size w) (.cells #[.int .i64 a, .int .i64 b] 24)) (.cells #[.int .i64 0, .int .i64 0] 24)
  have B1 := (Blk.new w 24 #[.int .i64 a, .int .i64 b]).alloc (.cells #[.int .i64 0, .int .i64 0] 24)
  have B2 := Blk.new2 w (.cells #[.int .i64 a, .int .i64 b] 24) 24 #[.int .i64 0, .int .i64 0]
  skip
  skip
  cases hv : linesOk a b && inB n 0 7
  · rw [hv] at hI
    have hs : raiseL a b n = (0, 0) := by unfold raiseL; rw [if_neg (by rintro ⟨h1, h2⟩; simp [h1, h2] at hv)]
    rw [hs]
    clear hs hv
    go_enter Tryd.func20, Tryd.ntmps20
    go_wp2_with fail; refine (hI _).mono ?_; rintro e w1 ⟨rfl, hbw1⟩; replace B1 := Blk.belowOf B1 hbw1 (by repeat (first | exact B1 | apply Blk.alloc | apply Blk.drew | (apply Blk.far; rotate_left; (first | assumption | exact Ne.symm (by assumption))) | apply Blk.set_)); replace B2 := Blk.belowOf B2 hbw1 (by repeat (first | exact B2 | apply Blk.alloc | apply Blk.drew | (apply Blk.far; rotate_left; (first | assumption | exact Ne.symm (by assumption))) | apply Blk.set_))
    have hb1 := thn hb0 hbw1
    have cB1_0 := B1.c0; have cB1_1 := B1.c1; have fB1 := B1.frozen; have cB2_0 := B2.c0; have cB2_1 := B2.c1; have fB2 := B2.frozen
    go_wp2
    exact bodyPost_ret (v := lnV (0, 0)) (by simp [results, Tryd.results20, go_sem, lnV, cB1_0, cB1_1, cB2_0, cB2_1]) rfl ⟨rfl, by repeat (first | exact hb1 | (apply Below.setCell; rotate_left; (simp only []; omega)))⟩
  · rw [hv] at hI
    rw [Bool.and_eq_true] at hv
    obtain ⟨hl, hn⟩ := hv
    rw [inB_true] at hn
    rcases (show n = 0 ∨ n = 1 ∨ n = 2 ∨ n = 3 ∨ n = 4 ∨ n = 5 ∨ n = 6 ∨ n = 7 by omega) with hk | hk | hk | hk | hk | hk | hk | hk
    · obtain rfl : n = 0 := hk
      have hs : raiseL a b 0 = (bits .or .i64 a 1, b) := by
        unfold raiseL
        rw [if_pos ⟨hl, by decide⟩]
        rfl
      rw [hs]
      clear hs hl
      go_enter Tryd.func20, Tryd.ntmps20
      go_wp2_with fail; refine (hI _).mono ?_; rintro e w1 ⟨rfl, hbw1⟩; replace B1 := Blk.belowOf B1 hbw1 (by repeat (first | exact B1 | apply Blk.alloc | apply Blk.drew | (apply Blk.far; rotate_left; (first | assumption | exact Ne.symm (by assumption))) | apply Blk.set_)); replace B2 := Blk.belowOf B2 hbw1 (by repeat (first | exact B2 | apply Blk.alloc | apply Blk.drew | (apply Blk.far; rotate_left; (first | assumption | exact Ne.symm (by assumption))) | apply Blk.set_))
      have hb1 := thn hb0 hbw1
      have cB1_0 := B1.c0; have cB1_1 := B1.c1; have fB1 := B1.frozen; have cB2_0 := B2.c0; have cB2_1 := B2.c1; have fB2 := B2.frozen
      go_wp2
      go_region
      all_goals
        go_wp2
        exact bodyPost_ret (v := lnV (bits .or .i64 a 1, b)) (by simp [results, Tryd.results20, go_sem, lnV, cB1_0, cB1_1, cB2_0, cB2_1]) rfl ⟨rfl, by repeat (first | exact hb1 | (apply Below.setCell; rotate_left; (simp only []; omega)) | apply Below.drew | apply belowDrewN)⟩
    · obtain rfl : n = 1 := hk
      have hs : raiseL a b 1 = (bits .or .i64 a 2, b) := by
        unfold raiseL
        rw [if_pos ⟨hl, by decide⟩]
        rfl
      rw [hs]
      clear hs hl
      go_enter Tryd.func20, Tryd.ntmps20
      go_wp2_with fail; refine (hI _).mono ?_; rintro e w1 ⟨rfl, hbw1⟩; replace B1 := Blk.belowOf B1 hbw1 (by repeat (first | exact B1 | apply Blk.alloc | apply Blk.drew | (apply Blk.far; rotate_left; (first | assumption | exact Ne.symm (by assumption))) | apply Blk.set_)); replace B2 := Blk.belowOf B2 hbw1 (by repeat (first | exact B2 | apply Blk.alloc | apply Blk.drew | (apply Blk.far; rotate_left; (first | assumption | exact Ne.symm (by assumption))) | apply Blk.set_))
      have hb1 := thn hb0 hbw1
      have cB1_0 := B1.c0; have cB1_1 := B1.c1; have fB1 := B1.frozen; have cB2_0 := B2.c0; have cB2_1 := B2.c1; have fB2 := B2.frozen
      go_wp2
      go_region
      all_goals
        go_wp2
        exact bodyPost_ret (v := lnV (bits .or .i64 a 2, b)) (by simp [results, Tryd.results20, go_sem, lnV, cB1_0, cB1_1, cB2_0, cB2_1]) rfl ⟨rfl, by repeat (first | exact hb1 | (apply Below.setCell; rotate_left; (simp only []; omega)) | apply Below.drew | apply belowDrewN)⟩
    · obtain rfl : n = 2 := hk
      have hs : raiseL a b 2 = (bits .or .i64 a 4, b) := by
        unfold raiseL
        rw [if_pos ⟨hl, by decide⟩]
        rfl
      rw [hs]
      clear hs hl
      go_enter Tryd.func20, Tryd.ntmps20
      go_wp2_with fail; refine (hI _).mono ?_; rintro e w1 ⟨rfl, hbw1⟩; replace B1 := Blk.belowOf B1 hbw1 (by repeat (first | exact B1 | apply Blk.alloc | apply Blk.drew | (apply Blk.far; rotate_left; (first | assumption | exact Ne.symm (by assumption))) | apply Blk.set_)); replace B2 := Blk.belowOf B2 hbw1 (by repeat (first | exact B2 | apply Blk.alloc | apply Blk.drew | (apply Blk.far; rotate_left; (first | assumption | exact Ne.symm (by assumption))) | apply Blk.set_))
      have hb1 := thn hb0 hbw1
      have cB1_0 := B1.c0; have cB1_1 := B1.c1; have fB1 := B1.frozen; have cB2_0 := B2.c0; have cB2_1 := B2.c1; have fB2 := B2.frozen
      go_wp2
      go_region
      all_goals
        go_wp2
        exact bodyPost_ret (v := lnV (bits .or .i64 a 4, b)) (by simp [results, Tryd.results20, go_sem, lnV, cB1_0, cB1_1, cB2_0, cB2_1]) rfl ⟨rfl, by repeat (first | exact hb1 | (apply Below.setCell; rotate_left; (simp only []; omega)) | apply Below.drew | apply belowDrewN)⟩
    · obtain rfl : n = 3 := hk
      have hs : raiseL a b 3 = (bits .or .i64 a 8, b) := by
        unfold raiseL
        rw [if_pos ⟨hl, by decide⟩]
        rfl
      rw [hs]
      clear hs hl
      go_enter Tryd.func20, Tryd.ntmps20
      go_wp2_with fail; refine (hI _).mono ?_; rintro e w1 ⟨rfl, hbw1⟩; replace B1 := Blk.belowOf B1 hbw1 (by repeat (first | exact B1 | apply Blk.alloc | apply Blk.drew | (apply Blk.far; rotate_left; (first | assumption | exact Ne.symm (by assumption))) | apply Blk.set_)); replace B2 := Blk.belowOf B2 hbw1 (by repeat (first | exact B2 | apply Blk.alloc | apply Blk.drew | (apply Blk.far; rotate_left; (first | assumption | exact Ne.symm (by assumption))) | apply Blk.set_))
      have hb1 := thn hb0 hbw1
      have cB1_0 := B1.c0; have cB1_1 := B1.c1; have fB1 := B1.frozen; have cB2_0 := B2.c0; have cB2_1 := B2.c1; have fB2 := B2.frozen
      go_wp2
      go_region
      all_goals
        go_wp2
        exact bodyPost_ret (v := lnV (bits .or .i64 a 8, b)) (by simp [results, Tryd.results20, go_sem, lnV, cB1_0, cB1_1, cB2_0, cB2_1]) rfl ⟨rfl, by repeat (first | exact hb1 | (apply Below.setCell; rotate_left; (simp only []; omega)) | apply Below.drew | apply belowDrewN)⟩
    · obtain rfl : n = 4 := hk
      have hs : raiseL a b 4 = (bits .or .i64 a 16, b) := by
        unfold raiseL
        rw [if_pos ⟨hl, by decide⟩]
        rfl
      rw [hs]
      clear hs hl
      go_enter Tryd.func20, Tryd.ntmps20
      go_wp2_with fail; refine (hI _).mono ?_; rintro e w1 ⟨rfl, hbw1⟩; replace B1 := Blk.belowOf B1 hbw1 (by repeat (first | exact B1 | apply Blk.alloc | apply Blk.drew | (apply Blk.far; rotate_left; (first | assumption | exact Ne.symm (by assumption))) | apply Blk.set_)); replace B2 := Blk.belowOf B2 hbw1 (by repeat (first | exact B2 | apply Blk.alloc | apply Blk.drew | (apply Blk.far; rotate_left; (first | assumption | exact Ne.symm (by assumption))) | apply Blk.set_))
      have hb1 := thn hb0 hbw1
      have cB1_0 := B1.c0; have cB1_1 := B1.c1; have fB1 := B1.frozen; have cB2_0 := B2.c0; have cB2_1 := B2.c1; have fB2 := B2.frozen
      go_wp2
      go_region
      all_goals
        go_wp2
        exact bodyPost_ret (v := lnV (bits .or .i64 a 16, b)) (by simp [results, Tryd.results20, go_sem, lnV, cB1_0, cB1_1, cB2_0, cB2_1]) rfl ⟨rfl, by repeat (first | exact hb1 | (apply Below.setCell; rotate_left; (simp only []; omega)) | apply Below.drew | apply belowDrewN)⟩
    · obtain rfl : n = 5 := hk
      have hs : raiseL a b 5 = (bits .or .i64 a 32, b) := by
        unfold raiseL
        rw [if_pos ⟨hl, by decide⟩]
        rfl
      rw [hs]
      clear hs hl
      go_enter Tryd.func20, Tryd.ntmps20
      go_wp2_with fail; refine (hI _).mono ?_; rintro e w1 ⟨rfl, hbw1⟩; replace B1 := Blk.belowOf B1 hbw1 (by repeat (first | exact B1 | apply Blk.alloc | apply Blk.drew | (apply Blk.far; rotate_left; (first | assumption | exact Ne.symm (by assumption))) | apply Blk.set_)); replace B2 := Blk.belowOf B2 hbw1 (by repeat (first | exact B2 | apply Blk.alloc | apply Blk.drew | (apply Blk.far; rotate_left; (first | assumption | exact Ne.symm (by assumption))) | apply Blk.set_))
      have hb1 := thn hb0 hbw1
      have cB1_0 := B1.c0; have cB1_1 := B1.c1; have fB1 := B1.frozen; have cB2_0 := B2.c0; have cB2_1 := B2.c1; have fB2 := B2.frozen
      go_wp2
      go_region
      all_goals
        go_wp2
        exact bodyPost_ret (v := lnV (bits .or .i64 a 32, b)) (by simp [results, Tryd.results20, go_sem, lnV, cB1_0, cB1_1, cB2_0, cB2_1]) rfl ⟨rfl, by repeat (first | exact hb1 | (apply Below.setCell; rotate_left; (simp only []; omega)) | apply Below.drew | apply belowDrewN)⟩
    · obtain rfl : n = 6 := hk
      have hs : raiseL a b 6 = (bits .or .i64 a 64, b) := by
        unfold raiseL
        rw [if_pos ⟨hl, by decide⟩]
        rfl
      rw [hs]
      clear hs hl
      go_enter Tryd.func20, Tryd.ntmps20
      go_wp2_with fail; refine (hI _).mono ?_; rintro e w1 ⟨rfl, hbw1⟩; replace B1 := Blk.belowOf B1 hbw1 (by repeat (first | exact B1 | apply Blk.alloc | apply Blk.drew | (apply Blk.far; rotate_left; (first | assumption | exact Ne.symm (by assumption))) | apply Blk.set_)); replace B2 := Blk.belowOf B2 hbw1 (by repeat (first | exact B2 | apply Blk.alloc | apply Blk.drew | (apply Blk.far; rotate_left; (first | assumption | exact Ne.symm (by assumption))) | apply Blk.set_))
      have hb1 := thn hb0 hbw1
      have cB1_0 := B1.c0; have cB1_1 := B1.c1; have fB1 := B1.frozen; have cB2_0 := B2.c0; have cB2_1 := B2.c1; have fB2 := B2.frozen
      go_wp2
      go_region
      all_goals
        go_wp2
        exact bodyPost_ret (v := lnV (bits .or .i64 a 64, b)) (by simp [results, Tryd.results20, go_sem, lnV, cB1_0, cB1_1, cB2_0, cB2_1]) rfl ⟨rfl, by repeat (first | exact hb1 | (apply Below.setCell; rotate_left; (simp only []; omega)) | apply Below.drew | apply belowDrewN)⟩
    · obtain rfl : n = 7 := hk
      have hs : raiseL a b 7 = (bits .or .i64 a 128, b) := by
        unfold raiseL
        rw [if_pos ⟨hl, by decide⟩]
        rfl
      rw [hs]
      clear hs hl
      go_enter Tryd.func20, Tryd.ntmps20
      go_wp2_with fail; refine (hI _).mono ?_; rintro e w1 ⟨rfl, hbw1⟩; replace B1 := Blk.belowOf B1 hbw1 (by repeat (first | exact B1 | apply Blk.alloc | apply Blk.drew | (apply Blk.far; rotate_left; (first | assumption | exact Ne.symm (by assumption))) | apply Blk.set_)); replace B2 := Blk.belowOf B2 hbw1 (by repeat (first | exact B2 | apply Blk.alloc | apply Blk.drew | (apply Blk.far; rotate_left; (first | assumption | exact Ne.symm (by assumption))) | apply Blk.set_))
      have hb1 := thn hb0 hbw1
      have cB1_0 := B1.c0; have cB1_1 := B1.c1; have fB1 := B1.frozen; have cB2_0 := B2.c0; have cB2_1 := B2.c1; have fB2 := B2.frozen
      go_wp2
      go_region
      all_goals
        go_wp2
        exact bodyPost_ret (v := lnV (bits .or .i64 a 128, b)) (by simp [results, Tryd.results20, go_sem, lnV, cB1_0, cB1_1, cB2_0, cB2_1]) rfl ⟨rfl, by repeat (first | exact hb1 | (apply Below.setCell; rotate_left; (simp only []; omega)) | apply Below.drew | apply belowDrewN)⟩
end Go.Proofs.YtffhcifeccdfjaaDoor
