/- Tables of actions: the draw. -/
import Derived.Test.YtffhcifeccdfjaaPick
import Derived.Test.YtffhcifeccdfjaaAppT
namespace Go.Proofs.Ytffhcifeccdfjaa
set_option linter.unusedVariables false
set_option linter.unusedSimpArgs false
open Go.RowKit

set_option maxHeartbeats 1000000 in
theorem l20Actions_any (r : Nat) (k b : Int) (w : World) (h : Rd w r 96 b) (hb : b ≤ 999999000) (hk : -1000 ≤ k) :
    Calls Try.prog 61 #[.pointer (some ⟨r, 0, none⟩), .int .i64 k] w (Post SV.v fun s w' => SV.ok w' w.heap.size 1 eI s ∧ s.n ≤ 4 ∧ Stp r 96 w (b + 10) w') := by
  have hS := Stp.refl h
  have hr0 := h.lt
  clear h
  skip
  go_enter Try.func61, Try.ntmps61
  go_wp2_with fail; refine (pick_any _ (3) _ _ (by repeat (first | exact hS.rd | apply Rd.drew | apply Rd.alloc | (apply Rd.setCell; rotate_left; assumption))) (by omega) (by omega)).mono ?_; rintro e w1 ⟨v1, rfl, hv10, hv11, hs⟩; replace hS := Stp.trans (by repeat (first | exact hS | apply Stp.drew | apply Stp.alloc | (apply Stp.set; assumption; assumption))) hs; clear hs
  go_wp2_with fail; refine (pick_any _ (3) _ _ (by repeat (first | exact hS.rd | apply Rd.drew | apply Rd.alloc | (apply Rd.setCell; rotate_left; assumption))) (by omega) (by omega)).mono ?_; rintro e w2 ⟨v2, rfl, hv20, hv21, hs⟩; replace hS := Stp.trans (by repeat (first | exact hS | apply Stp.drew | apply Stp.alloc | (apply Stp.set; assumption; assumption))) hs; clear hs
  go_wp2_with fail; refine (pick_any _ (3) _ _ (by repeat (first | exact hS.rd | apply Rd.drew | apply Rd.alloc | (apply Rd.setCell; rotate_left; assumption))) (by omega) (by omega)).mono ?_; rintro e w3 ⟨v3, rfl, hv30, hv31, hs⟩; replace hS := Stp.trans (by repeat (first | exact hS | apply Stp.drew | apply Stp.alloc | (apply Stp.set; assumption; assumption))) hs; clear hs
  have B1 := Blk.new w3 3 #[.int .i64 v1, .int .i64 v2, .int .i64 v3]; have lB1 := hS.rd.lt; have nB1 := Nat.ne_of_gt lB1; have sB1 := hS.grown.size
  go_wp2_with fail; refine (odd_any _ (k) _ _ (by repeat (first | exact hS.rd | apply Rd.drew | apply Rd.alloc | (apply Rd.setCell; rotate_left; assumption))) (by omega) (by omega)).mono ?_; rintro e w4 ⟨q, rfl, hs⟩; replace B1 := Blk.stpOf B1 hs (by repeat (first | exact B1 | apply Blk.alloc | apply Blk.drew | (apply Blk.far; rotate_left; (first | assumption | exact Ne.symm (by assumption))) | apply Blk.set_)) (by assumption); replace hS := Stp.trans (by repeat (first | exact hS | apply Stp.drew | apply Stp.alloc | (apply Stp.set; assumption; assumption))) hs; clear hs
  cases q
  · have cB1_0 := B1.c0; have cB1_1 := B1.c1; have cB1_2 := B1.c2; have fB1 := B1.frozen
    go_wp2
    go_ret
    exact ⟨⟨_, _, _, [v1, v2, v3]⟩, rfl, ⟨Sl.of_blk (xs := [v1, v2, v3]) B1 encI (by simp), fun g o e => by injection e with e; injection e with e; omega, (fun e => by cases e), (fun ad e => by injection e with e; rw [← e])⟩, by simp, (by repeat (first | exact hS.le (by omega) | apply Stp.drew | apply Stp.alloc | (apply Stp.set; assumption; assumption)))⟩
  · go_wp2_with fail; refine (pick_any _ (3) _ _ (by repeat (first | exact hS.rd | apply Rd.drew | apply Rd.alloc | (apply Rd.setCell; rotate_left; assumption))) (by omega) (by omega)).mono ?_; rintro e w5 ⟨v4, rfl, hv40, hv41, hs⟩; replace B1 := Blk.stpOf B1 hs (by repeat (first | exact B1 | apply Blk.alloc | apply Blk.drew | (apply Blk.far; rotate_left; (first | assumption | exact Ne.symm (by assumption))) | apply Blk.set_)) (by assumption); replace hS := Stp.trans (by repeat (first | exact hS | apply Stp.drew | apply Stp.alloc | (apply Stp.set; assumption; assumption))) hs; clear hs
    rcases (show v4 = 0 ∨ v4 = 1 ∨ v4 = 2 by omega) with rfl | rfl | rfl
    · go_wp2_with fail; refine (pick_any _ (3) _ _ (by repeat (first | exact hS.rd | apply Rd.drew | apply Rd.alloc | (apply Rd.setCell; rotate_left; assumption))) (by omega) (by omega)).mono ?_; rintro e w6 ⟨v5, rfl, hv50, hv51, hs⟩; replace B1 := Blk.stpOf B1 hs (by repeat (first | exact B1 | apply Blk.alloc | apply Blk.drew | (apply Blk.far; rotate_left; (first | assumption | exact Ne.symm (by assumption))) | apply Blk.set_)) (by assumption); replace hS := Stp.trans (by repeat (first | exact hS | apply Stp.drew | apply Stp.alloc | (apply Stp.set; assumption; assumption))) hs; clear hs
      have B2 := Blk.new w6 3 #[.int .i64 (-1), .int .i64 3]; have lB2 := hS.rd.lt; have nB2 := Nat.ne_of_gt lB2; have sB2 := hS.grown.size; have dB1B2 := Nat.ne_of_lt B1.lt
      go_wp2_with fail; refine (pick_any _ (2) _ _ (by repeat (first | exact hS.rd | apply Rd.drew | apply Rd.alloc | (apply Rd.setCell; rotate_left; assumption))) (by omega) (by omega)).mono ?_; rintro e w7 ⟨v6, rfl, hv60, hv61, hs⟩; replace B1 := Blk.stpOf B1 hs (by repeat (first | exact B1 | apply Blk.alloc | apply Blk.drew | (apply Blk.far; rotate_left; (first | assumption | exact Ne.symm (by assumption))) | apply Blk.set_)) (by assumption); replace B2 := Blk.stpOf B2 hs (by repeat (first | exact B2 | apply Blk.alloc | apply Blk.drew | (apply Blk.far; rotate_left; (first | assumption | exact Ne.symm (by assumption))) | apply Blk.set_)) (by assumption); replace hS := Stp.trans (by repeat (first | exact hS | apply Stp.drew | apply Stp.alloc | (apply Stp.set; assumption; assumption))) hs; clear hs
      rcases (show v5 = 0 ∨ v5 = 1 ∨ v5 = 2 by omega) with rfl | rfl | rfl
      all_goals
        have g2 := (B2.cell v6.toNat).trans (litq2 hv60 hv61 _ _)
        have cB1_0 := B1.c0; have cB1_1 := B1.c1; have cB1_2 := B1.c2; have fB1 := B1.frozen
        go_wp2
        go_ret
      · have B3 : Blk _ _ _ #[.int .i64 (sel [-1, 3] v6), .int .i64 v2, .int .i64 v3] := B1.set_ 0 (.int .i64 (sel [-1, 3] v6))
        exact ⟨⟨_, _, _, [sel [-1, 3] v6, v2, v3]⟩, rfl, ⟨Sl.of_blk (xs := [sel [-1, 3] v6, v2, v3]) B3 encI (by simp), fun g o e => by injection e with e; injection e with e; omega, (fun e => by cases e), (fun ad e => by injection e with e; rw [← e])⟩, by simp, (by repeat (first | exact hS.le (by omega) | apply Stp.drew | apply Stp.alloc | (apply Stp.set; assumption; assumption)))⟩
      · have B3 : Blk _ _ _ #[.int .i64 v1, .int .i64 (sel [-1, 3] v6), .int .i64 v3] := B1.set_ 1 (.int .i64 (sel [-1, 3] v6))
        exact ⟨⟨_, _, _, [v1, sel [-1, 3] v6, v3]⟩, rfl, ⟨Sl.of_blk (xs := [v1, sel [-1, 3] v6, v3]) B3 encI (by simp), fun g o e => by injection e with e; injection e with e; omega, (fun e => by cases e), (fun ad e => by injection e with e; rw [← e])⟩, by simp, (by repeat (first | exact hS.le (by omega) | apply Stp.drew | apply Stp.alloc | (apply Stp.set; assumption; assumption)))⟩
      · have B3 : Blk _ _ _ #[.int .i64 v1, .int .i64 v2, .int .i64 (sel [-1, 3] v6)] := B1.set_ 2 (.int .i64 (sel [-1, 3] v6))
        exact ⟨⟨_, _, _, [v1, v2, sel [-1, 3] v6]⟩, rfl, ⟨Sl.of_blk (xs := [v1, v2, sel [-1, 3] v6]) B3 encI (by simp), fun g o e => by injection e with e; injection e with e; omega, (fun e => by cases e), (fun ad e => by injection e with e; rw [← e])⟩, by simp, (by repeat (first | exact hS.le (by omega) | apply Stp.drew | apply Stp.alloc | (apply Stp.set; assumption; assumption)))⟩
    · skip
      have cB1_0 := B1.c0; have cB1_1 := B1.c1; have cB1_2 := B1.c2; have fB1 := B1.frozen
      go_wp2
      go_ret
      have hsl := (Sl.of_blk (xs := [v1, v2, v3]) B1 encI (by simp)).drop_ 1 (by simp) (c' := 2) (A' := some ⟨w3.heap.size, 1, none⟩) (by simp) (by simp) (fun b o e _ => by injection e with e; injection e with e1 e2; subst e1 e2; rfl)
      exact ⟨⟨_, _, _, [v2, v3]⟩, rfl, ⟨hsl, fun g o e => by injection e with e; injection e with e; omega, (fun e => by cases e), (fun ad e => by injection e with e; rw [← e])⟩, by simp, (by repeat (first | exact hS.le (by omega) | apply Stp.drew | apply Stp.alloc | (apply Stp.set; assumption; assumption)))⟩
    · have cB1_0 := B1.c0; have cB1_1 := B1.c1; have cB1_2 := B1.c2; have fB1 := B1.frozen
      have hown := Own.of_blk (xs := [v1, v2, v3]) B1 (Nat.le_refl _) encI (by simp [maxLen])
      have hlB := B1.lt
      have hsrc : Sl (w5.alloc (.cells #[.int .i64 0] 3)) 1 eI (some ⟨w5.heap.size, 0, none⟩) 1 1 [0] := Sl.of_blk (xs := [0]) (Blk.new w5 3 #[.int .i64 0]) encI (by simp)
      replace hown := hown.alloc (.cells #[.int .i64 0] 3)
      go_wp2_with (at_builtin; refine app_own rfl _ _ appInt rfl encI w3.heap.size _ [v1, v2, v3] rfl hown _ 1 1 [0] rfl (fun e => by cases e) hsrc (by simp) (by simp; omega) ?_; intro v' w6 hown' hgrow)
      obtain ⟨A, c, rfl, hA, hsl, hfr⟩ := hown'.sl encI
      go_ret
      exact ⟨⟨A, _, c, _⟩, rfl, ⟨hsl, fun g o e => by have := hfr g o e; omega, hA.1, hA.2⟩, by simp, (Stp.app (hS.alloc _) hown hgrow (by omega) (by omega)).le (by omega)⟩

end Go.Proofs.Ytffhcifeccdfjaa