/- Windows: the draws. -/
import Derived.Test.YtffhcifeccdfjaaPick
import Derived.Test.YtffhcifeccdfjaaAppT
import Derived.Test.YtffhcifeccdfjaaWin
namespace Go.Proofs.Ytffhcifeccdfjaa
set_option linter.unusedVariables false
set_option linter.unusedSimpArgs false
open Go.RowKit

def WinB (x : Win) : Prop := -1 ≤ x.base ∧ x.base ≤ 4096 ∧ 0 ≤ x.size ∧ x.size ≤ 4098
def winV (x : Win) : Value := .agg #[.int .i64 x.base, .int .i64 x.size, .bool x.wr]
theorem encW : Enc Win.cells 3 := ⟨fun _ => rfl, fun x u h => by simp [Win.cells] at h; rcases h with rfl | rfl | rfl <;> rfl⟩

set_option maxHeartbeats 2000000 in
theorem l20Window_any (r : Nat) (k b : Int) (w : World) (h : Rd w r 96 b) (hb : b ≤ 999999000) (hk : -1000 ≤ k) :
    Calls Try.prog 100 #[.pointer (some ⟨r, 0, none⟩), .int .i64 k] w (Post winV fun x w' => WinB x ∧ Stp r 96 w (b + 10) w') := by
  have hS := Stp.refl h
  skip
  have B1 := Blk.new w 30 #[.int .i64 0, .int .i64 0, .bool false]; have lB1 := hS.rd.lt; have nB1 := Nat.ne_of_gt lB1; have sB1 := hS.grown.size
  clear h
  go_enter Try.func100, Try.ntmps100
  go_wp2_with fail; refine (pick_any _ (40) _ _ (by repeat (first | exact hS.rd | apply Rd.drew | apply Rd.alloc | (apply Rd.setCell; rotate_left; assumption))) (by omega) (by omega)).mono ?_; rintro e w1 ⟨v1, rfl, hv10, hv11, hs⟩; replace B1 := Blk.stpOf B1 hs (by repeat (first | exact B1 | apply Blk.alloc | apply Blk.drew | (apply Blk.far; rotate_left; (first | assumption | exact Ne.symm (by assumption))) | apply Blk.set_)) (by assumption); replace hS := Stp.trans (by repeat (first | exact hS | apply Stp.drew | apply Stp.alloc | (apply Stp.set; assumption; assumption))) hs; clear hs
  go_wp2_with fail; refine (pick_any _ (12) _ _ (by repeat (first | exact hS.rd | apply Rd.drew | apply Rd.alloc | (apply Rd.setCell; rotate_left; assumption))) (by omega) (by omega)).mono ?_; rintro e w2 ⟨v2, rfl, hv20, hv21, hs⟩; replace B1 := Blk.stpOf B1 hs (by repeat (first | exact B1 | apply Blk.alloc | apply Blk.drew | (apply Blk.far; rotate_left; (first | assumption | exact Ne.symm (by assumption))) | apply Blk.set_)) (by assumption); replace hS := Stp.trans (by repeat (first | exact hS | apply Stp.drew | apply Stp.alloc | (apply Stp.set; assumption; assumption))) hs; clear hs
  go_wp2_with fail; refine (pick_any _ (2) _ _ (by repeat (first | exact hS.rd | apply Rd.drew | apply Rd.alloc | (apply Rd.setCell; rotate_left; assumption))) (by omega) (by omega)).mono ?_; rintro e w3 ⟨v3, rfl, hv30, hv31, hs⟩; replace B1 := Blk.stpOf B1 hs (by repeat (first | exact B1 | apply Blk.alloc | apply Blk.drew | (apply Blk.far; rotate_left; (first | assumption | exact Ne.symm (by assumption))) | apply Blk.set_)) (by assumption); replace hS := Stp.trans (by repeat (first | exact hS | apply Stp.drew | apply Stp.alloc | (apply Stp.set; assumption; assumption))) hs; clear hs
  have B2 := Blk.new w3 30 #[.int .i64 v1, .int .i64 (1 + v2), .bool (v3 == 0)]; have lB2 := hS.rd.lt; have nB2 := Nat.ne_of_gt lB2; have sB2 := hS.grown.size; have dB1B2 := Nat.ne_of_lt B1.lt
  go_wp2_with fail; refine (odd_any _ (9) _ _ (by repeat (first | exact hS.rd | apply Rd.drew | apply Rd.alloc | (apply Rd.setCell; rotate_left; assumption))) (by omega) (by omega)).mono ?_; rintro e w4 ⟨q, rfl, hs⟩; replace B1 := Blk.stpOf B1 hs (by repeat (first | exact B1 | apply Blk.alloc | apply Blk.drew | (apply Blk.far; rotate_left; (first | assumption | exact Ne.symm (by assumption))) | apply Blk.set_)) (by assumption); replace B2 := Blk.stpOf B2 hs (by repeat (first | exact B2 | apply Blk.alloc | apply Blk.drew | (apply Blk.far; rotate_left; (first | assumption | exact Ne.symm (by assumption))) | apply Blk.set_)) (by assumption); replace hS := Stp.trans (by repeat (first | exact hS | apply Stp.drew | apply Stp.alloc | (apply Stp.set; assumption; assumption))) hs; clear hs
  have cB1_0 := B1.c0; have cB1_1 := B1.c1; have cB1_2 := B1.c2; have fB1 := B1.frozen; have cB2_0 := B2.c0; have cB2_1 := B2.c1; have cB2_2 := B2.c2; have fB2 := B2.frozen
  cases q
  focus
    go_wp2_with fail; refine (odd_any _ (k) _ _ (by repeat (first | exact hS.rd | apply Rd.drew | apply Rd.alloc | (apply Rd.setCell; rotate_left; assumption))) (by omega) (by omega)).mono ?_; rintro e w5 ⟨q2, rfl, hs⟩; replace B1 := Blk.stpOf B1 hs (by repeat (first | exact B1 | apply Blk.alloc | apply Blk.drew | (apply Blk.far; rotate_left; (first | assumption | exact Ne.symm (by assumption))) | apply Blk.set_)) (by assumption); replace B2 := Blk.stpOf B2 hs (by repeat (first | exact B2 | apply Blk.alloc | apply Blk.drew | (apply Blk.far; rotate_left; (first | assumption | exact Ne.symm (by assumption))) | apply Blk.set_)) (by assumption); replace hS := Stp.trans (by repeat (first | exact hS | apply Stp.drew | apply Stp.alloc | (apply Stp.set; assumption; assumption))) hs; clear hs
    obtain ⟨p, rfl⟩ : ∃ p, p = v1 := ⟨_, rfl⟩
    have hp : 0 ≤ p ∧ p ≤ 4096 := by omega
  rotate_left
  focus
    go_wp2_with fail; refine (odd_any _ (k) _ _ (by repeat (first | exact hS.rd | apply Rd.drew | apply Rd.alloc | (apply Rd.setCell; rotate_left; assumption))) (by omega) (by omega)).mono ?_; rintro e w5 ⟨q2, rfl, hs⟩; replace B1 := Blk.stpOf B1 hs (by repeat (first | exact B1 | apply Blk.alloc | apply Blk.drew | (apply Blk.far; rotate_left; (first | assumption | exact Ne.symm (by assumption))) | apply Blk.set_)) (by assumption); replace B2 := Blk.stpOf B2 hs (by repeat (first | exact B2 | apply Blk.alloc | apply Blk.drew | (apply Blk.far; rotate_left; (first | assumption | exact Ne.symm (by assumption))) | apply Blk.set_)) (by assumption); replace hS := Stp.trans (by repeat (first | exact hS | apply Stp.drew | apply Stp.alloc | (apply Stp.set; assumption; assumption))) hs; clear hs
    replace B2 : Blk _ _ _ #[.int .i64 (4096 - (1 + v2)), .int .i64 (1 + v2), .bool (v3 == 0)] := B2
    have hp : 0 ≤ 4096 - (1 + v2) ∧ 4096 - (1 + v2) ≤ 4096 := by omega
    generalize 4096 - (1 + v2) = p at hp B2
  rotate_left
  all_goals
    clear cB1_0 cB1_1 cB1_2 fB1 cB2_0 cB2_1 cB2_2 fB2
    obtain ⟨hp0, hp1⟩ := hp
    cases q2
    · have cB1_0 := B1.c0; have cB1_1 := B1.c1; have cB1_2 := B1.c2; have fB1 := B1.frozen; have cB2_0 := B2.c0; have cB2_1 := B2.c1; have cB2_2 := B2.c2; have fB2 := B2.frozen
      go_wp2
      exact bodyPost_ret (v := winV ⟨p, 1 + v2, v3 == 0⟩) (by simp [results, Try.results100, go_sem, winV, cB1_0, cB1_1, cB1_2]) rfl ⟨_, rfl, by unfold WinB; simp only []; omega, (by repeat (first | exact hS.le (by omega) | apply Stp.drew | apply Stp.alloc | (apply Stp.set; assumption; assumption)))⟩
    · go_wp2_with fail; refine (pick_any _ (3) _ _ (by repeat (first | exact hS.rd | apply Rd.drew | apply Rd.alloc | (apply Rd.setCell; rotate_left; assumption))) (by omega) (by omega)).mono ?_; rintro e w6 ⟨v4, rfl, hv40, hv41, hs⟩; replace B1 := Blk.stpOf B1 hs (by repeat (first | exact B1 | apply Blk.alloc | apply Blk.drew | (apply Blk.far; rotate_left; (first | assumption | exact Ne.symm (by assumption))) | apply Blk.set_)) (by assumption); replace B2 := Blk.stpOf B2 hs (by repeat (first | exact B2 | apply Blk.alloc | apply Blk.drew | (apply Blk.far; rotate_left; (first | assumption | exact Ne.symm (by assumption))) | apply Blk.set_)) (by assumption); replace hS := Stp.trans (by repeat (first | exact hS | apply Stp.drew | apply Stp.alloc | (apply Stp.set; assumption; assumption))) hs; clear hs
      rcases (show v4 = 0 ∨ v4 = 1 ∨ v4 = 2 by omega) with rfl | rfl | rfl
      · have B3 := Blk.new w6 3 #[.int .i64 (-1), .int .i64 4096]; have lB3 := hS.rd.lt; have nB3 := Nat.ne_of_gt lB3; have sB3 := hS.grown.size; have dB1B3 := Nat.ne_of_lt B1.lt; have dB2B3 := Nat.ne_of_lt B2.lt
        go_wp2_with fail; refine (pick_any _ (2) _ _ (by repeat (first | exact hS.rd | apply Rd.drew | apply Rd.alloc | (apply Rd.setCell; rotate_left; assumption))) (by omega) (by omega)).mono ?_; rintro e w7 ⟨v5, rfl, hv50, hv51, hs⟩; replace B1 := Blk.stpOf B1 hs (by repeat (first | exact B1 | apply Blk.alloc | apply Blk.drew | (apply Blk.far; rotate_left; (first | assumption | exact Ne.symm (by assumption))) | apply Blk.set_)) (by assumption); replace B2 := Blk.stpOf B2 hs (by repeat (first | exact B2 | apply Blk.alloc | apply Blk.drew | (apply Blk.far; rotate_left; (first | assumption | exact Ne.symm (by assumption))) | apply Blk.set_)) (by assumption); replace B3 := Blk.stpOf B3 hs (by repeat (first | exact B3 | apply Blk.alloc | apply Blk.drew | (apply Blk.far; rotate_left; (first | assumption | exact Ne.symm (by assumption))) | apply Blk.set_)) (by assumption); replace hS := Stp.trans (by repeat (first | exact hS | apply Stp.drew | apply Stp.alloc | (apply Stp.set; assumption; assumption))) hs; clear hs
        have hs5 := sel_bd (lo := -1) (hi := 4097) [-1, 4096] (by decide) (by decide) v5 hv50 hv51
        have cB1_0 := B1.c0; have cB1_1 := B1.c1; have cB1_2 := B1.c2; have fB1 := B1.frozen; have cB2_0 := B2.c0; have cB2_1 := B2.c1; have cB2_2 := B2.c2; have fB2 := B2.frozen
        have g3 := (B3.cell v5.toNat).trans (litq2 hv50 hv51 _ _)
        go_wp2
        exact bodyPost_ret (v := winV ⟨sel [-1, 4096] v5, 1 + v2, v3 == 0⟩) (by simp [results, Try.results100, go_sem, winV, cB1_0, cB1_1, cB1_2]) rfl ⟨_, rfl, by unfold WinB; simp only []; omega, (by repeat (first | exact hS.le (by omega) | apply Stp.drew | apply Stp.alloc | (apply Stp.set; assumption; assumption)))⟩
      · skip
        have cB1_0 := B1.c0; have cB1_1 := B1.c1; have cB1_2 := B1.c2; have fB1 := B1.frozen; have cB2_0 := B2.c0; have cB2_1 := B2.c1; have cB2_2 := B2.c2; have fB2 := B2.frozen
        go_wp2
        exact bodyPost_ret (v := winV ⟨p, 0, v3 == 0⟩) (by simp [results, Try.results100, go_sem, winV, cB1_0, cB1_1, cB1_2]) rfl ⟨_, rfl, by unfold WinB; simp only []; omega, (by repeat (first | exact hS.le (by omega) | apply Stp.drew | apply Stp.alloc | (apply Stp.set; assumption; assumption)))⟩
      · have cB1_0 := B1.c0; have cB1_1 := B1.c1; have cB1_2 := B1.c2; have fB1 := B1.frozen; have cB2_0 := B2.c0; have cB2_1 := B2.c1; have cB2_2 := B2.c2; have fB2 := B2.frozen
        go_wp2
        exact bodyPost_ret (v := winV ⟨p, 4096 - p + 1, v3 == 0⟩) (by simp [results, Try.results100, go_sem, winV, cB1_0, cB1_1, cB1_2]) rfl ⟨_, rfl, by unfold WinB; simp only []; omega, (by repeat (first | exact hS.le (by omega) | apply Stp.drew | apply Stp.alloc | (apply Stp.set; assumption; assumption)))⟩

theorem appWin : AppT Try.prog 31 30 3 24 := AppT.mk' (z := .agg #[.int .i64 0, .int .i64 0, .bool false]) (by kernel_rfl) (by kernel_rfl) rfl (by decide) (by decide)
theorem zeroWin : ZeroT Try.prog 31 30 3 Win.cells ⟨0, 0, false⟩ := ZeroT.mk' (z := .agg #[.int .i64 0, .int .i64 0, .bool false]) (by kernel_rfl) (by kernel_rfl) rfl (by decide) (bytes := 24) (by decide)
theorem win_one (w : World) (x : Win) : Sl (w.alloc (.cells #[.int .i64 x.base, .int .i64 x.size, .bool x.wr] 30)) 3 Win.cells (some ⟨w.heap.size, 0, none⟩) 1 1 [x] :=
  Sl.of_blk (xs := [x]) (Blk.new w 30 #[.int .i64 x.base, .int .i64 x.size, .bool x.wr]) encW (by simp)

set_option maxRecDepth 100000 in
set_option maxHeartbeats 1000000 in
theorem l20WindowsO_any (r : Nat) (most k b : Int) (w : World) (h : Rd w r 96 b) (hb : b ≤ 999998000) (hk : (0 ≤ most ∧ most ≤ 5) ∧ -1000 ≤ k) :
    Calls Try.prog 80 #[.pointer (some ⟨r, 0, none⟩), .int .i64 most, .int .i64 k] w (Post SV.v fun s w' => Own w' w.heap.size 30 3 Win.cells s.v s.xs ∧ s.n ≤ 13 ∧ (∀ x ∈ s.xs, WinB x) ∧ Stp r 96 w (b + 100) w') := by
  have hS := Stp.refl h
  have hr0 := h.lt
  obtain ⟨⟨hm0, hm1⟩, hk⟩ := hk
  clear h
  skip
  have own0 : Own (w.alloc (.cells #[] 30)) w.heap.size 30 3 Win.cells _ ([] : List Win) := Own.of_blk (Blk.new w 30 #[]) (Nat.le_refl _) encW (by simp [maxLen])
  skip
  go_enter Try.func80, Try.ntmps80
  go_wp2_with fail; refine (pick_any _ (most + 1) _ _ (by repeat (first | exact hS.rd | apply Rd.drew | apply Rd.alloc | (apply Rd.setCell; rotate_left; assumption))) (by omega) (by omega)).mono ?_; rintro e w0 ⟨v0, rfl, hv00, hv01, hs⟩; replace own0 := Own.stpOf own0 hs (by repeat (first | exact own0 | apply Own.alloc | apply Own.drew)) (by assumption); replace hS := Stp.trans (by repeat (first | exact hS | apply Stp.drew | apply Stp.alloc | (apply Stp.set; assumption; assumption))) hs; clear hs
  go_wp2
  go_loopg [7, 8] 20 (fun gg s5 s6 wr => ∃ (kk : Int) (l : List Win), 0 ≤ kk ∧ kk ≤ gg ∧ gg ≤ 20 ∧ s6 = .int .i64 kk ∧ l.length + kk ≤ 5 ∧ Aside (Own wr w.heap.size 30 3 Win.cells s5 l) ∧ Aside (∀ y ∈ l, WinB y) ∧ Aside (Stp r 96 w (b + 1 + 10 * l.length) wr))
  case atStart => exact ⟨v0, [], by omega, by omega, by omega, rfl, by simp; omega, own0, (show Aside _ from fun y hy => by cases hy), hS.le (by simp)⟩
  case round =>
    obtain ⟨kk, l, hk0, hk1, hg, rfl, hl, OW, BB, SS⟩ := hrel
    clear hS own0
    have hS := SS.out
    have own1 := OW.out
    clear SS OW
    by_cases hlt : 0 < kk
    · skip
      go_wp2_with fail; refine (l20Window_any r 0 _ _ (by repeat (first | exact hS.rd | apply Rd.drew | apply Rd.alloc | (apply Rd.setCell; rotate_left; assumption))) (by omega) (by omega)).mono ?_; rintro e w1 ⟨x, rfl, hx, hs⟩; replace own1 := Own.stpOf own1 hs (by repeat (first | exact own1 | apply Own.alloc | apply Own.drew)) (by assumption); replace hS := Stp.trans (by repeat (first | exact hS | apply Stp.drew | apply Stp.alloc | (apply Stp.set; assumption; assumption))) hs; clear hs
      have src := win_one w1 x
      have own2 := own1.alloc (.cells #[.int .i64 x.base, .int .i64 x.size, .bool x.wr] 30)
      have hS2 := hS.alloc (.cells #[.int .i64 x.base, .int .i64 x.size, .bool x.wr] 30)
      simp only [winV]
      replace hx := Lib.hid hx
      go_wp2_with (at_builtin; (refine app_own rfl _ _ appWin rfl encW w.heap.size _ l rfl own2 _ 1 1 [x] rfl (fun e => by cases e) src (by omega) hS2.grown.size ?_); intro v' w5 own5 hg5; have hS5 := hS2.app own2 hg5 (Nat.le_refl _) hr0)
      go_roundg (gk - 1)
      case measure => omega
      case rel => exact ⟨kk - 1, l ++ [x], by omega, by omega, by omega, by go_num, by simp; omega, own5, (show Aside _ from fun z hz => (List.mem_append.1 hz).elim (BB.out z) (fun h => by rw [List.mem_singleton.1 h]; exact hx.out)), hS5.le (by simp; omega)⟩
    · obtain rfl : kk = 0 := by omega
      clear hlt
      skip
      go_wp2_with fail; refine (odd_any _ (k) _ _ (by repeat (first | exact hS.rd | apply Rd.drew | apply Rd.alloc | (apply Rd.setCell; rotate_left; assumption))) (by omega) (by omega)).mono ?_; rintro e w1 ⟨q, rfl, hs⟩; replace own1 := Own.stpOf own1 hs (by repeat (first | exact own1 | apply Own.alloc | apply Own.drew)) (by assumption); replace hS := Stp.trans (by repeat (first | exact hS | apply Stp.drew | apply Stp.alloc | (apply Stp.set; assumption; assumption))) hs; clear hs
      cases q
      · go_wp2
        obtain ⟨A, c, rfl, hA, hsl, hfr⟩ := own1.sl encW
        go_ret
        exact ⟨⟨A, _, c, l⟩, rfl, own1, by simp; omega, BB.out, hS.le (by omega)⟩
      · go_wp2_with fail; refine (pick_any _ (2) _ _ (by repeat (first | exact hS.rd | apply Rd.drew | apply Rd.alloc | (apply Rd.setCell; rotate_left; assumption))) (by omega) (by omega)).mono ?_; rintro e w2 ⟨v2, rfl, hv20, hv21, hs⟩; replace own1 := Own.stpOf own1 hs (by repeat (first | exact own1 | apply Own.alloc | apply Own.drew)) (by assumption); replace hS := Stp.trans (by repeat (first | exact hS | apply Stp.drew | apply Stp.alloc | (apply Stp.set; assumption; assumption))) hs; clear hs
        by_cases hv2 : v2 = 0
        · go_wp2_with fail; refine (l20Window_any r 1 _ _ (by repeat (first | exact hS.rd | apply Rd.drew | apply Rd.alloc | (apply Rd.setCell; rotate_left; assumption))) (by omega) (by omega)).mono ?_; rintro e w3 ⟨x, rfl, hx, hs⟩; replace own1 := Own.stpOf own1 hs (by repeat (first | exact own1 | apply Own.alloc | apply Own.drew)) (by assumption); replace hS := Stp.trans (by repeat (first | exact hS | apply Stp.drew | apply Stp.alloc | (apply Stp.set; assumption; assumption))) hs; clear hs
          have src := win_one w3 x
          have own2 := own1.alloc (.cells #[.int .i64 x.base, .int .i64 x.size, .bool x.wr] 30)
          have hS2 := hS.alloc (.cells #[.int .i64 x.base, .int .i64 x.size, .bool x.wr] 30)
          simp only [winV]
          replace hx := Lib.hid hx
          go_wp2_with (at_builtin; refine app_own rfl _ _ appWin rfl encW w.heap.size _ l rfl own2 _ 1 1 [x] rfl (fun e => by cases e) src (by omega) hS2.grown.size ?_; intro v' w5 own5 hg5; have hS5 := hS2.app own2 hg5 (Nat.le_refl _) hr0)
          obtain ⟨A, c, rfl, hA, hsl, hfr⟩ := own5.sl encW
          go_ret
          exact ⟨⟨A, _, c, _⟩, rfl, own5, by simp; omega, fun z hz => (List.mem_append.1 hz).elim (BB.out z) (fun h => by rw [List.mem_singleton.1 h]; exact hx.out), hS5.le (by omega)⟩
        · go_wp2_with (refine make_own rfl _ _ zeroWin rfl encW w.heap.size _ _ 13 rfl rfl rfl rfl (by decide) hS.grown.size ?_; intro w3 own3 hg3)
          go_ret
          exact ⟨⟨_, _, _, List.replicate 13 ⟨0, 0, false⟩⟩, rfl, own3, by simp, fun z hz => by rw [List.eq_of_mem_replicate hz]; unfold WinB; simp, (hS.none hg3).le (by omega)⟩
theorem l20Windows_any (r : Nat) (most k b : Int) (w : World) (h : Rd w r 96 b) (hb : b ≤ 999998000) (hk : (0 ≤ most ∧ most ≤ 5) ∧ -1000 ≤ k) :
    Calls Try.prog 80 #[.pointer (some ⟨r, 0, none⟩), .int .i64 most, .int .i64 k] w (Post SV.v fun s w' => SV.ok w' w.heap.size 3 Win.cells s ∧ s.n ≤ 13 ∧ (∀ x ∈ s.xs, WinB x) ∧ Stp r 96 w (b + 100) w') :=
  (l20WindowsO_any r most k b w h hb hk).mono fun e w' ⟨s, h1, h2, h3⟩ => ⟨s, h1, Own.okv encW (n := s.n) (c := s.c) (A := s.A) h2, h3⟩

def slV2 {α β : Type} (x : SV α × SV β) : Value := .tuple #[x.1.v, x.2.v]
end Go.Proofs.Ytffhcifeccdfjaa