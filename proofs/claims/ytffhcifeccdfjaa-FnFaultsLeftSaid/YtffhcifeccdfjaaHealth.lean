/- Health: the draw, HealthValid. -/
import Derived.Test.YtffhcifeccdfjaaPick
import Derived.Test.YtffhcifeccdfjaaSel
import Derived.Test.YtffhcifeccdfjaaOrd
namespace Go.Proofs.Ytffhcifeccdfjaa
set_option linter.unusedVariables false
set_option linter.unusedSimpArgs false
open Go.RowKit

set_option maxHeartbeats 1000000 in
theorem l20Health_any (r : Nat) (k b : Int) (w : World) (h : Rd w r 96 b) (hb : b ≤ 999999000) (hk : -1000 ≤ k) :
    Calls Try.prog 60 #[.pointer (some ⟨r, 0, none⟩), .int .i64 k] w (Post (fun x : Bool × Int => .agg #[.bool x.1, .int .i64 x.2]) fun _ w' => Stp r 96 w (b + 10) w') := by
  have hS := Stp.refl h
  have B1 := Blk.new w 50 #[.bool false, .int .i64 0]; have lB1 := hS.rd.lt; have nB1 := Nat.ne_of_gt lB1; have sB1 := hS.grown.size
  clear h
  go_enter Try.func60, Try.ntmps60
  go_wp2_with fail; refine (pick_any _ 4 _ _ (by repeat (first | exact hS.rd | apply Rd.drew | apply Rd.alloc)) (by omega) (by omega)).mono ?_; rintro e w1 ⟨v1, rfl, hv10, hv11, hs⟩
  replace B1 := Blk.stp hs (by repeat (first | exact B1 | apply Blk.alloc | apply Blk.drew)) (by assumption)
  replace hS := Stp.trans (by repeat (first | exact hS | apply Stp.drew | apply Stp.alloc)) hs; clear hs
  go_wp2_with fail; refine (pick_any _ 4 _ _ (by repeat (first | exact hS.rd | apply Rd.drew | apply Rd.alloc)) (by omega) (by omega)).mono ?_; rintro e w2 ⟨v2, rfl, hv20, hv21, hs⟩
  replace B1 := Blk.stp hs (by repeat (first | exact B1 | apply Blk.alloc | apply Blk.drew)) (by assumption)
  replace hS := Stp.trans (by repeat (first | exact hS | apply Stp.drew | apply Stp.alloc)) hs; clear hs
  have d12 := Nat.ne_of_lt B1.lt
  have lB2 := hS.rd.lt; have nB2 := Nat.ne_of_gt lB2; have sB2 := hS.grown.size
  have hcase : v2 = 0 ∨ (¬ v2 = 0 ∧ v1 = 3) ∨ (¬ v2 = 0 ∧ ¬ v1 = 3) := by omega
  rcases hcase with rfl | ⟨h2, rfl⟩ | ⟨h2, h1⟩
  all_goals
    go_wp2_with fail; refine (odd_any _ _ _ _ (by repeat (first | exact hS.rd | apply Rd.drew | apply Rd.alloc)) (by omega) (by omega)).mono ?_; rintro e w3 ⟨q, rfl, hs⟩
    replace B1 := Blk.stp hs (by repeat (first | exact B1 | apply Blk.alloc | apply Blk.drew)) (by assumption)
    have B2 := Blk.stp hs (Blk.new w2 _ _) nB2
    replace hS := Stp.trans (by repeat (first | exact hS | apply Stp.drew | apply Stp.alloc)) hs; clear hs
    cases q
    · have c1 := B1.cell
      have f1 := B1.frozen
      have c2 := B2.cell
      have f2 := B2.frozen
      go_wp2
      refine bodyPost_ret (v := ?_) ?_ rfl ?_; rotate_left; · (simp [results, Try.results60, go_sem, c1]; rfl)
      exact ⟨(_, _), rfl, (by repeat (first | exact hS.le (by omega) | (refine Stp.set _ (by simp only []; omega) (by simp only []; omega) ?_) | apply Stp.drew | apply Stp.alloc))⟩
    · go_wp2_with fail; refine (pick_any _ 2 _ _ (by repeat (first | exact hS.rd | apply Rd.drew | apply Rd.alloc)) (by omega) (by omega)).mono ?_; rintro e w4 ⟨v3, rfl, hv30, hv31, hs⟩
      replace B1 := Blk.stp hs (by repeat (first | exact B1 | apply Blk.alloc | apply Blk.drew)) (by assumption)
      replace B2 := Blk.stp hs (by repeat (first | exact B2 | apply Blk.alloc | apply Blk.drew)) (by assumption)
      replace hS := Stp.trans (by repeat (first | exact hS | apply Stp.drew | apply Stp.alloc)) hs; clear hs
      by_cases hv3 : v3 = 0
      · have B3 := Blk.new w4 3 #[.int .i64 (-1), .int .i64 4]; have lB3 := hS.rd.lt; have nB3 := Nat.ne_of_gt lB3; have sB3 := hS.grown.size
        go_wp2_with fail; refine (pick_any _ 2 _ _ (by repeat (first | exact hS.rd | apply Rd.drew | apply Rd.alloc)) (by omega) (by omega)).mono ?_; rintro e w5 ⟨v4, rfl, hv40, hv41, hs⟩
        replace B1 := Blk.stp hs (by repeat (first | exact B1 | apply Blk.alloc | apply Blk.drew)) (by assumption)
        replace B2 := Blk.stp hs (by repeat (first | exact B2 | apply Blk.alloc | apply Blk.drew)) (by assumption)
        replace B3 := Blk.stp hs (by repeat (first | exact B3 | apply Blk.alloc | apply Blk.drew)) (by assumption)
        replace hS := Stp.trans (by repeat (first | exact hS | apply Stp.drew | apply Stp.alloc)) hs; clear hs
        have c1 := B1.cell
        have f1 := B1.frozen
        have c2 := B2.cell
        have f2 := B2.frozen
        have c3 := (B3.cell v4.toNat).trans (litq2 hv40 hv41 _ _)
        go_wp2
        refine bodyPost_ret (v := ?_) ?_ rfl ?_; rotate_left; · (simp [results, Try.results60, go_sem, c1]; rfl)
        exact ⟨(_, _), rfl, (by repeat (first | exact hS.le (by omega) | (refine Stp.set _ (by simp only []; omega) (by simp only []; omega) ?_) | apply Stp.drew | apply Stp.alloc))⟩
      · have c1 := B1.cell
        have f1 := B1.frozen
        have c2 := B2.cell
        have f2 := B2.frozen
        go_wp2
        refine bodyPost_ret (v := ?_) ?_ rfl ?_; rotate_left; · (simp [results, Try.results60, go_sem, c1]; rfl)
        exact ⟨(_, _), rfl, (by repeat (first | exact hS.le (by omega) | (refine Stp.set _ (by simp only []; omega) (by simp only []; omega) ?_) | apply Stp.drew | apply Stp.alloc))⟩

def healthOk (f : Bool) (x : Int) : Bool := inB x 0 3 && (f || decide (x < 3))
theorem healthValid_any (f : Bool) (x : Int) (w : World) : Calls Try.prog 28 #[.agg #[.bool f, .int .i64 x]] w fun e w' => .returned (.bool (healthOk f x)) = e ∧ Below w.heap.size w w' := by
  unfold healthOk
  have h1 := fun W => in_any x 0 3 W
  generalize inB x 0 3 = v1 at *
  by_cases h3 : x < 3
  all_goals
    cases v1 <;> cases f
    all_goals
      go_enter Try.func28, Try.ntmps28
      go_wp2_with fail
      refine (h1 _).mono ?_; rintro e w' ⟨rfl, rfl⟩
      go_wp2
      go_ret
      exact ⟨by simp [h3], (Below.refl _ _).alloc (Nat.le_refl _) _⟩
theorem specHealthValid_any (f : Bool) (x : Int) (w : World) : Calls Try.prog 65 #[.agg #[.bool f, .int .i64 x]] w fun e w' => .returned (.bool (healthOk f x)) = e ∧ Below w.heap.size w w' := by
  unfold healthOk
  have h1 := fun W => l1In_any x 0 3 W
  generalize inB x 0 3 = v1 at *
  by_cases h3 : x < 3
  all_goals
    cases v1 <;> cases f
    all_goals
      go_enter Try.func65, Try.ntmps65
      go_wp2_with fail
      refine (h1 _).mono ?_; rintro e w' ⟨rfl, rfl⟩
      go_wp2
      go_ret
      exact ⟨by simp [h3], (Below.refl _ _).alloc (Nat.le_refl _) _⟩
end Go.Proofs.Ytffhcifeccdfjaa
