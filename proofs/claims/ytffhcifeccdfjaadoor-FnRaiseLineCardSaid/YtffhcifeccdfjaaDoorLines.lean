/- Interrupt lines: the draw, LinesValid. -/
import Derived.Test.YtffhcifeccdfjaaDoorPick
import Derived.Test.YtffhcifeccdfjaaDoorSel
import Derived.Test.YtffhcifeccdfjaaDoorL1In
namespace Go.Proofs.YtffhcifeccdfjaaDoor
set_option linter.unusedVariables false
set_option linter.unusedSimpArgs false
open Go.RowKit

set_option maxHeartbeats 1000000 in
theorem l20Lines_any (r : Nat) (k b : Int) (w : World) (h : Rd w r 52 b) (hb : b ≤ 999999000) (hk : -1000 ≤ k) :
    Calls Tryd.prog 21 #[.pointer (some ⟨r, 0, none⟩), .int .i64 k] w (Post (fun x : Int × Int => .agg #[.int .i64 x.1, .int .i64 x.2]) fun _ w' => Stp r 52 w (b + 10) w') := by
  have hS := Stp.refl h
  have B1 := Blk.new w 24 #[.int .i64 0, .int .i64 0]; have lB1 := hS.rd.lt; have nB1 := Nat.ne_of_gt lB1; have sB1 := hS.grown.size
  clear h
  go_enter Tryd.func21, Tryd.ntmps21
  go_wp2_with fail; refine (pick_any _ 256 _ _ (by repeat (first | exact hS.rd | apply Rd.drew | apply Rd.alloc)) (by omega) (by omega)).mono ?_; rintro e w1 ⟨v1, rfl, hv10, hv11, hs⟩
  replace B1 := Blk.stp hs (by repeat (first | exact B1 | apply Blk.alloc | apply Blk.drew)) (by assumption)
  replace hS := Stp.trans (by repeat (first | exact hS | apply Stp.drew | apply Stp.alloc)) hs; clear hs
  go_wp2_with fail; refine (pick_any _ 256 _ _ (by repeat (first | exact hS.rd | apply Rd.drew | apply Rd.alloc)) (by omega) (by omega)).mono ?_; rintro e w2 ⟨v2, rfl, hv20, hv21, hs⟩
  replace B1 := Blk.stp hs (by repeat (first | exact B1 | apply Blk.alloc | apply Blk.drew)) (by assumption)
  replace hS := Stp.trans (by repeat (first | exact hS | apply Stp.drew | apply Stp.alloc)) hs; clear hs
  have d12 := Nat.ne_of_lt B1.lt
  have B2 := Blk.new w2 24 #[.int .i64 v1, .int .i64 v2]; have lB2 := hS.rd.lt; have nB2 := Nat.ne_of_gt lB2; have sB2 := hS.grown.size
  go_wp2_with fail; refine (odd_any _ _ _ _ (by repeat (first | exact hS.rd | apply Rd.drew | apply Rd.alloc)) (by omega) (by omega)).mono ?_; rintro e w3 ⟨q, rfl, hs⟩
  replace B1 := Blk.stp hs (by repeat (first | exact B1 | apply Blk.alloc | apply Blk.drew)) (by assumption)
  replace B2 := Blk.stp hs (by repeat (first | exact B2 | apply Blk.alloc | apply Blk.drew)) (by assumption)
  replace hS := Stp.trans (by repeat (first | exact hS | apply Stp.drew | apply Stp.alloc)) hs; clear hs
  cases q
  · have c1 := B1.cell
    have f1 := B1.frozen
    have c2 := B2.cell
    have f2 := B2.frozen
    go_wp2
    refine bodyPost_ret (v := .agg #[.int .i64 v1, .int .i64 v2]) (by simp [results, Tryd.results21, go_sem, c1]) rfl ⟨(v1, v2), rfl, (by repeat (first | exact hS.le (by omega) | (refine Stp.set _ (by simp only []; omega) (by simp only []; omega) ?_) | apply Stp.drew | apply Stp.alloc))⟩
  · go_wp2_with fail; refine (pick_any _ 2 _ _ (by repeat (first | exact hS.rd | apply Rd.drew | apply Rd.alloc)) (by omega) (by omega)).mono ?_; rintro e w4 ⟨v3, rfl, hv30, hv31, hs⟩
    replace B1 := Blk.stp hs (by repeat (first | exact B1 | apply Blk.alloc | apply Blk.drew)) (by assumption)
    replace B2 := Blk.stp hs (by repeat (first | exact B2 | apply Blk.alloc | apply Blk.drew)) (by assumption)
    replace hS := Stp.trans (by repeat (first | exact hS | apply Stp.drew | apply Stp.alloc)) hs; clear hs
    have B3 := Blk.new w4 3 #[.int .i64 (-1), .int .i64 256]; have lB3 := hS.rd.lt; have nB3 := Nat.ne_of_gt lB3; have sB3 := hS.grown.size
    by_cases hv3 : v3 = 0
    all_goals
      go_wp2_with fail; refine (pick_any _ 2 _ _ (by repeat (first | exact hS.rd | apply Rd.drew | apply Rd.alloc)) (by omega) (by omega)).mono ?_; rintro e w5 ⟨v4, rfl, hv40, hv41, hs⟩
      replace B1 := Blk.stp hs (by repeat (first | exact B1 | apply Blk.alloc | apply Blk.drew)) (by assumption)
      replace B2 := Blk.stp hs (by repeat (first | exact B2 | apply Blk.alloc | apply Blk.drew)) (by assumption)
      replace B3 := Blk.stp hs (by repeat (first | exact B3 | apply Blk.alloc | apply Blk.drew)) (by assumption)
      replace hS := Stp.trans (by repeat (first | exact hS | apply Stp.drew | apply Stp.alloc)) hs; clear hs
      have c1 := B1.cell
      have f1 := B1.frozen
      have c2 := B2.cell
      have f2 := B2.frozen
      have c3 := (B3.cell v4.toNat).trans (litq2 hv40 hv41 _ _)
      go_wp2
    · exact bodyPost_ret (v := .agg #[.int .i64 (sel [-1, 256] v4), .int .i64 v2]) (by simp [results, Tryd.results21, go_sem, c1]) rfl ⟨(_, v2), rfl, (by repeat (first | exact hS.le (by omega) | (refine Stp.set _ (by simp only []; omega) (by simp only []; omega) ?_) | apply Stp.drew | apply Stp.alloc))⟩
    · exact bodyPost_ret (v := .agg #[.int .i64 v1, .int .i64 (sel [-1, 256] v4)]) (by simp [results, Tryd.results21, go_sem, c1]) rfl ⟨(v1, _), rfl, (by repeat (first | exact hS.le (by omega) | (refine Stp.set _ (by simp only []; omega) (by simp only []; omega) ?_) | apply Stp.drew | apply Stp.alloc))⟩

def linesOk (a b : Int) : Bool := inB a 0 255 && inB b 0 255
theorem linesValid_any (a b : Int) (w : World) : Calls Tryd.prog 15 #[.agg #[.int .i64 a, .int .i64 b]] w fun e w' => .returned (.bool (linesOk a b)) = e ∧ Below w.heap.size w w' := by
  unfold linesOk
  have h1 := fun W => in_any a 0 255 W
  have h2 := fun W => in_any b 0 255 W
  generalize inB a 0 255 = v1 at *
  generalize inB b 0 255 = v2 at *
  cases v1 <;> cases v2
  all_goals
    go_enter Tryd.func15, Tryd.ntmps15
    go_wp2_with fail
    refine (h1 _).mono ?_; rintro e w' ⟨rfl, rfl⟩
    go_wp2_with fail
    try (refine (h2 _).mono ?_; rintro e w' ⟨rfl, rfl⟩; go_wp2)
    go_ret
    exact ⟨rfl, (Below.refl _ _).alloc (Nat.le_refl _) _⟩
theorem specLinesValid_any (a b : Int) (w : World) : Calls Tryd.prog 16 #[.agg #[.int .i64 a, .int .i64 b]] w fun e w' => .returned (.bool (linesOk a b)) = e ∧ Below w.heap.size w w' := by
  unfold linesOk
  have h1 := fun W => l1In_any a 0 255 W
  have h2 := fun W => l1In_any b 0 255 W
  generalize inB a 0 255 = v1 at *
  generalize inB b 0 255 = v2 at *
  cases v1 <;> cases v2
  all_goals
    go_enter Tryd.func16, Tryd.ntmps16
    go_wp2_with fail
    refine (h1 _).mono ?_; rintro e w' ⟨rfl, rfl⟩
    go_wp2_with fail
    try (refine (h2 _).mono ?_; rintro e w' ⟨rfl, rfl⟩; go_wp2)
    go_ret
    exact ⟨rfl, (Below.refl _ _).alloc (Nat.le_refl _) _⟩
end Go.Proofs.YtffhcifeccdfjaaDoor
