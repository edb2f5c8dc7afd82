/- Transfers: the draw, TransferValid. -/
import Derived.Test.YtffhcifeccdfjaaPick
import Derived.Test.YtffhcifeccdfjaaSel
import Derived.Test.YtffhcifeccdfjaaL1In
namespace Go.Proofs.Ytffhcifeccdfjaa
set_option linter.unusedVariables false
set_option linter.unusedSimpArgs false
open Go.RowKit

def trCells (x : Int × Int × Bool) : Value := .agg #[.int .i64 x.1, .int .i64 x.2.1, .bool x.2.2]
def TrB (x : Int × Int × Bool) : Prop := -1 ≤ x.1 ∧ x.1 ≤ 4096 ∧ 0 ≤ x.2.1 ∧ x.2.1 ≤ 65

set_option maxHeartbeats 2000000 in
theorem l20Transfer_any (r : Nat) (k b : Int) (w : World) (h : Rd w r 96 b) (hb : b ≤ 999999000) (hk : -1000 ≤ k) :
    Calls Try.prog 40 #[.pointer (some ⟨r, 0, none⟩), .int .i64 k] w (Post trCells fun x w' => TrB x ∧ Stp r 96 w (b + 10) w') := by
  have hS := Stp.refl h
  skip
  have B1 := Blk.new w 24 #[.int .i64 0, .int .i64 0, .bool false]; have lB1 := hS.rd.lt; have nB1 := Nat.ne_of_gt lB1; have sB1 := hS.grown.size
  clear h
  go_enter Try.func40, Try.ntmps40
  go_wp2_with fail; refine (pick_any _ (50) _ _ (by repeat (first | exact hS.rd | apply Rd.drew | apply Rd.alloc | (apply Rd.setCell; rotate_left; assumption))) (by omega) (by omega)).mono ?_; rintro e w1 ⟨v1, rfl, hv10, hv11, hs⟩; replace B1 := Blk.stpOf B1 hs (by repeat (first | exact B1 | apply Blk.alloc | apply Blk.drew | (apply Blk.far; rotate_left; (first | assumption | exact Ne.symm (by assumption))) | apply Blk.set_)) (by assumption); replace hS := Stp.trans (by repeat (first | exact hS | apply Stp.drew | apply Stp.alloc | (apply Stp.set; assumption; assumption))) hs; clear hs
  go_wp2_with fail; refine (pick_any _ (10) _ _ (by repeat (first | exact hS.rd | apply Rd.drew | apply Rd.alloc | (apply Rd.setCell; rotate_left; assumption))) (by omega) (by omega)).mono ?_; rintro e w2 ⟨v2, rfl, hv20, hv21, hs⟩; replace B1 := Blk.stpOf B1 hs (by repeat (first | exact B1 | apply Blk.alloc | apply Blk.drew | (apply Blk.far; rotate_left; (first | assumption | exact Ne.symm (by assumption))) | apply Blk.set_)) (by assumption); replace hS := Stp.trans (by repeat (first | exact hS | apply Stp.drew | apply Stp.alloc | (apply Stp.set; assumption; assumption))) hs; clear hs
  go_wp2_with fail; refine (pick_any _ (2) _ _ (by repeat (first | exact hS.rd | apply Rd.drew | apply Rd.alloc | (apply Rd.setCell; rotate_left; assumption))) (by omega) (by omega)).mono ?_; rintro e w3 ⟨v3, rfl, hv30, hv31, hs⟩; replace B1 := Blk.stpOf B1 hs (by repeat (first | exact B1 | apply Blk.alloc | apply Blk.drew | (apply Blk.far; rotate_left; (first | assumption | exact Ne.symm (by assumption))) | apply Blk.set_)) (by assumption); replace hS := Stp.trans (by repeat (first | exact hS | apply Stp.drew | apply Stp.alloc | (apply Stp.set; assumption; assumption))) hs; clear hs
  have B2 := Blk.new w3 24 #[.int .i64 v1, .int .i64 (1 + v2), .bool (v3 == 0)]; have lB2 := hS.rd.lt; have nB2 := Nat.ne_of_gt lB2; have sB2 := hS.grown.size; have dB1B2 := Nat.ne_of_lt B1.lt
  go_wp2_with fail; refine (odd_any _ (9) _ _ (by repeat (first | exact hS.rd | apply Rd.drew | apply Rd.alloc | (apply Rd.setCell; rotate_left; assumption))) (by omega) (by omega)).mono ?_; rintro e w4 ⟨q, rfl, hs⟩; replace B1 := Blk.stpOf B1 hs (by repeat (first | exact B1 | apply Blk.alloc | apply Blk.drew | (apply Blk.far; rotate_left; (first | assumption | exact Ne.symm (by assumption))) | apply Blk.set_)) (by assumption); replace B2 := Blk.stpOf B2 hs (by repeat (first | exact B2 | apply Blk.alloc | apply Blk.drew | (apply Blk.far; rotate_left; (first | assumption | exact Ne.symm (by assumption))) | apply Blk.set_)) (by assumption); replace hS := Stp.trans (by repeat (first | exact hS | apply Stp.drew | apply Stp.alloc | (apply Stp.set; assumption; assumption))) hs; clear hs
  have cB1_0 := B1.c0; have cB1_1 := B1.c1; have cB1_2 := B1.c2; have fB1 := B1.frozen; have cB2_0 := B2.c0; have cB2_1 := B2.c1; have cB2_2 := B2.c2; have fB2 := B2.frozen
  cases q
  focus
    go_wp2_with fail; refine (odd_any _ (k) _ _ (by repeat (first | exact hS.rd | apply Rd.drew | apply Rd.alloc | (apply Rd.setCell; rotate_left; assumption))) (by omega) (by omega)).mono ?_; rintro e w5 ⟨q2, rfl, hs⟩; replace B1 := Blk.stpOf B1 hs (by repeat (first | exact B1 | apply Blk.alloc | apply Blk.drew | (apply Blk.far; rotate_left; (first | assumption | exact Ne.symm (by assumption))) | apply Blk.set_)) (by assumption); replace B2 := Blk.stpOf B2 hs (by repeat (first | exact B2 | apply Blk.alloc | apply Blk.drew | (apply Blk.far; rotate_left; (first | assumption | exact Ne.symm (by assumption))) | apply Blk.set_)) (by assumption); replace hS := Stp.trans (by repeat (first | exact hS | apply Stp.drew | apply Stp.alloc | (apply Stp.set; assumption; assumption))) hs; clear hs
    obtain ⟨p, rfl⟩ : ∃ p, p = v1 := ⟨_, rfl⟩
    have hp : -1 ≤ p ∧ p ≤ 4096 := by omega
  rotate_left
  focus
    go_wp2_with fail; refine (odd_any _ (k) _ _ (by repeat (first | exact hS.rd | apply Rd.drew | apply Rd.alloc | (apply Rd.setCell; rotate_left; assumption))) (by omega) (by omega)).mono ?_; rintro e w5 ⟨q2, rfl, hs⟩; replace B1 := Blk.stpOf B1 hs (by repeat (first | exact B1 | apply Blk.alloc | apply Blk.drew | (apply Blk.far; rotate_left; (first | assumption | exact Ne.symm (by assumption))) | apply Blk.set_)) (by assumption); replace B2 := Blk.stpOf B2 hs (by repeat (first | exact B2 | apply Blk.alloc | apply Blk.drew | (apply Blk.far; rotate_left; (first | assumption | exact Ne.symm (by assumption))) | apply Blk.set_)) (by assumption); replace hS := Stp.trans (by repeat (first | exact hS | apply Stp.drew | apply Stp.alloc | (apply Stp.set; assumption; assumption))) hs; clear hs
    replace B2 : Blk _ _ _ #[.int .i64 (4096 - (1 + v2)), .int .i64 (1 + v2), .bool (v3 == 0)] := B2
    have hp : -1 ≤ 4096 - (1 + v2) ∧ 4096 - (1 + v2) ≤ 4096 := by omega
    generalize 4096 - (1 + v2) = p at hp B2
  rotate_left
  all_goals
    clear cB1_0 cB1_1 cB1_2 fB1 cB2_0 cB2_1 cB2_2 fB2
    cases q2
    · have cB1_0 := B1.c0; have cB1_1 := B1.c1; have cB1_2 := B1.c2; have fB1 := B1.frozen; have cB2_0 := B2.c0; have cB2_1 := B2.c1; have cB2_2 := B2.c2; have fB2 := B2.frozen
      go_wp2
      exact bodyPost_ret (v := trCells (p, 1 + v2, v3 == 0)) (by simp [results, Try.results40, go_sem, trCells, cB1_0, cB1_1, cB1_2]) rfl ⟨_, rfl, by unfold TrB; simp only []; omega, (by repeat (first | exact hS.le (by omega) | apply Stp.drew | apply Stp.alloc | (apply Stp.set; assumption; assumption)))⟩
    · go_wp2_with fail; refine (pick_any _ (3) _ _ (by repeat (first | exact hS.rd | apply Rd.drew | apply Rd.alloc | (apply Rd.setCell; rotate_left; assumption))) (by omega) (by omega)).mono ?_; rintro e w6 ⟨v4, rfl, hv40, hv41, hs⟩; replace B1 := Blk.stpOf B1 hs (by repeat (first | exact B1 | apply Blk.alloc | apply Blk.drew | (apply Blk.far; rotate_left; (first | assumption | exact Ne.symm (by assumption))) | apply Blk.set_)) (by assumption); replace B2 := Blk.stpOf B2 hs (by repeat (first | exact B2 | apply Blk.alloc | apply Blk.drew | (apply Blk.far; rotate_left; (first | assumption | exact Ne.symm (by assumption))) | apply Blk.set_)) (by assumption); replace hS := Stp.trans (by repeat (first | exact hS | apply Stp.drew | apply Stp.alloc | (apply Stp.set; assumption; assumption))) hs; clear hs
      rcases (show v4 = 0 ∨ v4 = 1 ∨ v4 = 2 by omega) with rfl | rfl | rfl
      · have B3 := Blk.new w6 3 #[.int .i64 0, .int .i64 65]; have lB3 := hS.rd.lt; have nB3 := Nat.ne_of_gt lB3; have sB3 := hS.grown.size; have dB1B3 := Nat.ne_of_lt B1.lt; have dB2B3 := Nat.ne_of_lt B2.lt
        go_wp2_with fail; refine (pick_any _ (2) _ _ (by repeat (first | exact hS.rd | apply Rd.drew | apply Rd.alloc | (apply Rd.setCell; rotate_left; assumption))) (by omega) (by omega)).mono ?_; rintro e w7 ⟨v5, rfl, hv50, hv51, hs⟩; replace B1 := Blk.stpOf B1 hs (by repeat (first | exact B1 | apply Blk.alloc | apply Blk.drew | (apply Blk.far; rotate_left; (first | assumption | exact Ne.symm (by assumption))) | apply Blk.set_)) (by assumption); replace B2 := Blk.stpOf B2 hs (by repeat (first | exact B2 | apply Blk.alloc | apply Blk.drew | (apply Blk.far; rotate_left; (first | assumption | exact Ne.symm (by assumption))) | apply Blk.set_)) (by assumption); replace B3 := Blk.stpOf B3 hs (by repeat (first | exact B3 | apply Blk.alloc | apply Blk.drew | (apply Blk.far; rotate_left; (first | assumption | exact Ne.symm (by assumption))) | apply Blk.set_)) (by assumption); replace hS := Stp.trans (by repeat (first | exact hS | apply Stp.drew | apply Stp.alloc | (apply Stp.set; assumption; assumption))) hs; clear hs
        have hs5 := sel_bd (lo := 0) (hi := 66) [0, 65] (by decide) (by decide) v5 hv50 hv51
        have cB1_0 := B1.c0; have cB1_1 := B1.c1; have cB1_2 := B1.c2; have fB1 := B1.frozen; have cB2_0 := B2.c0; have cB2_1 := B2.c1; have cB2_2 := B2.c2; have fB2 := B2.frozen; have cB3_0 := B3.c0; have cB3_1 := B3.c1; have fB3 := B3.frozen
        have g3 := (B3.cell v5.toNat).trans (litq2 hv50 hv51 _ _)
        clear cB3_0 cB3_1
        go_wp2
        exact bodyPost_ret (v := trCells (p, sel [0, 65] v5, v3 == 0)) (by simp [results, Try.results40, go_sem, trCells, cB1_0, cB1_1, cB1_2]) rfl ⟨_, rfl, by unfold TrB; simp only []; omega, (by repeat (first | exact hS.le (by omega) | apply Stp.drew | apply Stp.alloc | (apply Stp.set; assumption; assumption)))⟩
      · skip
        have cB1_0 := B1.c0; have cB1_1 := B1.c1; have cB1_2 := B1.c2; have fB1 := B1.frozen; have cB2_0 := B2.c0; have cB2_1 := B2.c1; have cB2_2 := B2.c2; have fB2 := B2.frozen
        go_wp2
        exact bodyPost_ret (v := trCells (-1, 1 + v2, v3 == 0)) (by simp [results, Try.results40, go_sem, trCells, cB1_0, cB1_1, cB1_2]) rfl ⟨_, rfl, by unfold TrB; simp only []; omega, (by repeat (first | exact hS.le (by omega) | apply Stp.drew | apply Stp.alloc | (apply Stp.set; assumption; assumption)))⟩
      · have cB1_0 := B1.c0; have cB1_1 := B1.c1; have cB1_2 := B1.c2; have fB1 := B1.frozen; have cB2_0 := B2.c0; have cB2_1 := B2.c1; have cB2_2 := B2.c2; have fB2 := B2.frozen
        go_wp2
        exact bodyPost_ret (v := trCells (4096, 1 + v2, v3 == 0)) (by simp [results, Try.results40, go_sem, trCells, cB1_0, cB1_1, cB1_2]) rfl ⟨_, rfl, by unfold TrB; simp only []; omega, (by repeat (first | exact hS.le (by omega) | apply Stp.drew | apply Stp.alloc | (apply Stp.set; assumption; assumption)))⟩

def trOk (p c : Int) : Bool := inB c 1 64 && inB p 0 (4096 - c)
theorem transferValid_any (p c : Int) (z : Bool) (w : World) : Calls Try.prog 42 #[trCells (p, c, z)] w fun e w' => .returned (.bool (trOk p c)) = e ∧ Below w.heap.size w w' := by
  unfold trOk trCells
  have h1 := fun W => in_any c 1 64 W
  have h2 := fun W => in_any p 0 (4096 - c) W
  have hc := @inB_true c 1 64
  generalize inB c 1 64 = v1 at *
  generalize inB p 0 (4096 - c) = v2 at *
  cases v1 <;> cases v2
  all_goals
    simp only [Bool.false_eq_true, false_iff, true_iff] at hc
    go_enter Try.func42, Try.ntmps42
    go_wp2_with fail
    refine (h1 _).mono ?_; rintro e w' ⟨rfl, rfl⟩
    go_wp2_with fail
    try (refine (h2 _).mono ?_; rintro e w' ⟨rfl, rfl⟩; go_wp2)
    go_ret
    exact ⟨rfl, (Below.refl _ _).alloc (Nat.le_refl _) _⟩
theorem specTransferValid_any (p c : Int) (z : Bool) (w : World) : Calls Try.prog 45 #[trCells (p, c, z)] w fun e w' => .returned (.bool (trOk p c)) = e ∧ Below w.heap.size w w' := by
  unfold trOk trCells
  have h1 := fun W => l1In_any c 1 64 W
  have h2 := fun W => l1In_any p 0 (4096 - c) W
  have hc := @inB_true c 1 64
  generalize inB c 1 64 = v1 at *
  generalize inB p 0 (4096 - c) = v2 at *
  cases v1 <;> cases v2
  all_goals
    simp only [Bool.false_eq_true, false_iff, true_iff] at hc
    go_enter Try.func45, Try.ntmps45
    go_wp2_with fail
    refine (h1 _).mono ?_; rintro e w' ⟨rfl, rfl⟩
    go_wp2_with fail
    try (refine (h2 _).mono ?_; rintro e w' ⟨rfl, rfl⟩; go_wp2)
    go_ret
    exact ⟨rfl, (Below.refl _ _).alloc (Nat.le_refl _) _⟩
end Go.Proofs.Ytffhcifeccdfjaa
