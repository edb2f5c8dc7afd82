/- Channels: the draws. -/
import Derived.Test.YthellpcohdbbfaaPick
import Derived.Test.YthellpcohdbbfaaSel
import Derived.Test.YthellpcohdbbfaaAppT
import Derived.Deep.RegionWith
namespace Go.Proofs.Ythellpcohdbbfaa
set_option linter.unusedVariables false
set_option linter.unusedSimpArgs false
open Go.RowKit

def ChanB (x : Int × Int × Int × Int) : Prop := 0 ≤ x.1 ∧ x.1 ≤ 4 ∧ 0 ≤ x.2.1 ∧ x.2.1 ≤ 5 ∧ 0 ≤ x.2.2.1 ∧ x.2.2.1 ≤ 6 ∧ 0 ≤ x.2.2.2 ∧ x.2.2.2 ≤ 4
theorem chan_one (w : World) (a b c d : Int) : Sl (w.alloc (.cells #[.int .i64 a, .int .i64 b, .int .i64 c, .int .i64 d] 25)) 4 eC (some ⟨w.heap.size, 0, none⟩) 1 1 [(a, b, c, d)] :=
  Sl.of_blk (xs := [(a, b, c, d)]) (Blk.new w 25 #[.int .i64 a, .int .i64 b, .int .i64 c, .int .i64 d]) encC (by simp)

theorem Own.other {α : Type} {w : World} {base E k : Nat} {enc : α → List Value} {v : Value} {xs : List α} (h : Own w base E k enc v xs) {p : Addr} (hne : ∀ g, v.ownBlock = some g → g ≠ p.block) (u : Value) : Own (w.setCell p u) base E k enc v xs :=
  h.kept (grown_setCell (World.grownBy.refl w (some p.block)) (.inl rfl) u) (.inr fun e => hne _ e rfl)

set_option maxRecDepth 100000 in
set_option maxHeartbeats 4000000 in
theorem l20Channels_any (r : Nat) (parts k b : Int) (w : World) (h : Rd w r 88 b) (hb : b ≤ 999998000) (hk : (1 ≤ parts ∧ parts ≤ 5) ∧ -1000 ≤ k) :
    Calls Try.prog 78 #[.pointer (some ⟨r, 0, none⟩), .int .i64 parts, .int .i64 k] w (Post SV.v fun s w' => SV.ok w' w.heap.size 4 eC s ∧ s.n ≤ 13 ∧ (∀ x ∈ s.xs, ChanB x) ∧ Stp r 88 w (b + 100) w') := by
  have hS := Stp.refl h
  have hr0 := h.lt
  obtain ⟨⟨hm0, hm1⟩, hk⟩ := hk
  clear h
  skip
  have own0 : Own (w.alloc (.cells #[] 25)) w.heap.size 25 4 eC _ ([] : List (Int × Int × Int × Int)) := Own.of_blk (Blk.new w 25 #[]) (Nat.le_refl _) encC (by simp [maxLen])
  skip
  go_enter Try.func78, Try.ntmps78
  go_wp2_with fail; refine (pick_any _ (6) _ _ (by repeat (first | exact hS.rd | apply Rd.drew | apply Rd.alloc | (apply Rd.setCell; rotate_left; assumption))) (by omega) (by omega)).mono ?_; rintro e w0 ⟨v0, rfl, hv00, hv01, hs⟩; replace own0 := Own.stpOf own0 hs (by repeat (first | exact own0 | apply Own.alloc | apply Own.drew)) (by assumption); replace hS := Stp.trans (by repeat (first | exact hS | apply Stp.drew | apply Stp.alloc | (apply Stp.set; assumption; assumption))) hs; clear hs
  go_wp2
  go_loopg [7, 8] 20 (fun gg s5 s6 wr => ∃ (kk : Int) (l : List (Int × Int × Int × Int)), 0 ≤ kk ∧ kk ≤ gg ∧ gg ≤ 20 ∧ s6 = .int .i64 kk ∧ l.length + kk ≤ 5 ∧ Aside (Own wr w.heap.size 25 4 eC s5 l) ∧ Aside (∀ y ∈ l, ChanB y) ∧ Aside (Stp r 88 w (b + 1 + 10 * l.length) wr))
  case atStart => exact ⟨v0, [], by omega, by omega, by omega, rfl, by simp; omega, own0, (show Aside _ from fun y hy => by cases hy), hS.le (by simp)⟩
  case round =>
    obtain ⟨kk, l, hk0, hk1, hg, rfl, hl, OW, BB, SS⟩ := hrel
    clear hS own0
    have hS := SS.out
    have own1 := OW.out
    clear SS OW
    by_cases hlt : 0 < kk ∧ 1 < parts
    · obtain ⟨hlt, hp1⟩ := hlt
      skip
      skip
      go_wp2_with fail; refine (pick_any _ (3) _ _ (by repeat (first | exact hS.rd | apply Rd.drew | apply Rd.alloc | (apply Rd.setCell; rotate_left; assumption))) (by omega) (by omega)).mono ?_; rintro e w1 ⟨v1, rfl, hv10, hv11, hs⟩; replace own1 := Own.stpOf own1 hs (by repeat (first | exact own1 | apply Own.alloc | apply Own.drew)) (by assumption); replace hS := Stp.trans (by repeat (first | exact hS | apply Stp.drew | apply Stp.alloc | (apply Stp.set; assumption; assumption))) hs; clear hs
      go_wp2_with fail; refine (pick_any _ (parts) _ _ (by repeat (first | exact hS.rd | apply Rd.drew | apply Rd.alloc | (apply Rd.setCell; rotate_left; assumption))) (by omega) (by omega)).mono ?_; rintro e w2 ⟨v2, rfl, hv20, hv21, hs⟩; replace own1 := Own.stpOf own1 hs (by repeat (first | exact own1 | apply Own.alloc | apply Own.drew)) (by assumption); replace hS := Stp.trans (by repeat (first | exact hS | apply Stp.drew | apply Stp.alloc | (apply Stp.set; assumption; assumption))) hs; clear hs
      go_wp2_with fail; refine (pick_any _ (3) _ _ (by repeat (first | exact hS.rd | apply Rd.drew | apply Rd.alloc | (apply Rd.setCell; rotate_left; assumption))) (by omega) (by omega)).mono ?_; rintro e w3 ⟨v3, rfl, hv30, hv31, hs⟩; replace own1 := Own.stpOf own1 hs (by repeat (first | exact own1 | apply Own.alloc | apply Own.drew)) (by assumption); replace hS := Stp.trans (by repeat (first | exact hS | apply Stp.drew | apply Stp.alloc | (apply Stp.set; assumption; assumption))) hs; clear hs
      have hne := Lib.hid (fun g e => Nat.ne_of_lt (own1.lt g e).2)
      replace own1 := own1.alloc (.cells #[.int .i64 (1 + v1), .int .i64 v2, .int .i64 0, .int .i64 (1 + v3)] 25)
      have B1 := Blk.new w3 25 #[.int .i64 (1 + v1), .int .i64 v2, .int .i64 0, .int .i64 (1 + v3)]; have lB1 := hS.rd.lt; have nB1 := Nat.ne_of_gt lB1; have sB1 := hS.grown.size
      have e1 := B1.c1
      have cB1_0 := B1.c0; have cB1_1 := B1.c1; have cB1_2 := B1.c2; have cB1_3 := B1.c3; have fB1 := B1.frozen
      have hw1 := IntWalk.i64_in (parts - 1) (by omega)
      have hw2 := IntWalk.i64_in (v2 + 1) (by omega)
      go_wp2_with fail
      go_region_with ((go_at_call 55; refine (pick_any _ (parts - 1) _ _ (by repeat (first | exact hS.rd | apply Rd.drew | apply Rd.alloc | (apply Rd.setCell; rotate_left; assumption))) (by omega) (by omega)).mono ?_; rintro e w4 ⟨v4, rfl, hv40, hv41, hs⟩; replace own1 := Own.stpOf own1 hs (by repeat (first | exact own1 | apply Own.alloc | apply Own.drew)) (by assumption); replace B1 := Blk.stpOf B1 hs (by repeat (first | exact B1 | apply Blk.alloc | apply Blk.drew | (apply Blk.far; rotate_left; (first | assumption | exact Ne.symm (by assumption))) | apply Blk.set_)) (by assumption); replace hS := Stp.trans (by repeat (first | exact hS | apply Stp.drew | apply Stp.alloc | (apply Stp.set; assumption; assumption))) hs; clear hs; have cB1_0 := B1.c0; have cB1_1 := B1.c1; have cB1_2 := B1.c2; have cB1_3 := B1.c3; have fB1 := B1.frozen); have hw3 := IntWalk.i64_in (v2 + 1 + v4) (by omega))
      all_goals
        have ht0 := Int.emod_nonneg (v2 + 1 + v4) (show parts ≠ 0 by omega)
        have ht1 := Int.emod_lt_of_pos (v2 + 1 + v4) (show 0 < parts by omega)
        clear hw1 hw2 hw3
        clear cB1_0 cB1_1 cB1_2 cB1_3 fB1
        generalize (v2 + 1 + v4) % parts = t at *
        replace hS := Stp.set (p := ⟨w3.heap.size, 2, none⟩) (.int .i64 t) sB1 lB1 hS
        replace own1 := own1.other (p := ⟨w3.heap.size, 2, none⟩) hne.out (.int .i64 t)
        replace B1 : Blk _ _ _ #[.int .i64 (1 + v1), .int .i64 v2, .int .i64 t, .int .i64 (1 + v3)] := B1.set_ 2 (.int .i64 t)
        generalize w4.setCell ⟨w3.heap.size, 2, none⟩ (.int .i64 t) = W at *
        have e3 := B1.c3
        have cB1_0 := B1.c0; have cB1_1 := B1.c1; have cB1_2 := B1.c2; have cB1_3 := B1.c3; have fB1 := B1.frozen
        by_cases hv1 : v1 = 0
        · subst hv1
          replace hS := Stp.set (p := ⟨w3.heap.size, 3, none⟩) (.int .i64 1) sB1 lB1 hS
          replace own1 := own1.other (p := ⟨w3.heap.size, 3, none⟩) hne.out (.int .i64 1)
          have src := chan_one (W.setCell ⟨w3.heap.size, 3, none⟩ (.int .i64 1)) 1 v2 t 1
          rw [show ((W.setCell ⟨w3.heap.size, 3, none⟩ (.int .i64 1))).heap.size = W.heap.size by simp [World.setCell]] at src
          have own2 := own1.alloc (.cells #[.int .i64 1, .int .i64 v2, .int .i64 t, .int .i64 1] 25)
          have hS2 := hS.alloc (.cells #[.int .i64 1, .int .i64 v2, .int .i64 t, .int .i64 1] 25)
          go_wp2_with (at_builtin; refine app_own rfl _ _ appChan rfl encC w.heap.size _ l rfl own2 _ 1 1 [(1, v2, t, 1)] rfl (fun e => by cases e) src (by omega) hS2.grown.size ?_; intro v' w9 own5 hg5; have hS5 := hS2.app own2 hg5 (Nat.le_refl _) hr0)
          go_roundg (gk - 1)
          case measure => omega
          case rel => exact ⟨kk - 1, l ++ [(1, v2, t, 1)], by omega, by omega, by omega, by go_num, by simp; omega, own5, (show Aside _ from fun z hz => (List.mem_append.1 hz).elim (BB.out z) (fun h => by rw [List.mem_singleton.1 h]; unfold ChanB; simp only []; omega)), hS5.le (by simp; omega)⟩
        · have src := chan_one W (1 + v1) v2 t (1 + v3)
          have own2 := own1.alloc (.cells #[.int .i64 (1 + v1), .int .i64 v2, .int .i64 t, .int .i64 (1 + v3)] 25)
          have hS2 := hS.alloc (.cells #[.int .i64 (1 + v1), .int .i64 v2, .int .i64 t, .int .i64 (1 + v3)] 25)
          go_wp2_with (at_builtin; refine app_own rfl _ _ appChan rfl encC w.heap.size _ l rfl own2 _ 1 1 [(1 + v1, v2, t, 1 + v3)] rfl (fun e => by cases e) src (by omega) hS2.grown.size ?_; intro v' w9 own5 hg5; have hS5 := hS2.app own2 hg5 (Nat.le_refl _) hr0)
          go_roundg (gk - 1)
          case measure => omega
          case rel => exact ⟨kk - 1, l ++ [(1 + v1, v2, t, 1 + v3)], by omega, by omega, by omega, by go_num, by simp; omega, own5, (show Aside _ from fun z hz => (List.mem_append.1 hz).elim (BB.out z) (fun h => by rw [List.mem_singleton.1 h]; unfold ChanB; simp only []; omega)), hS5.le (by simp; omega)⟩
    · have hex : kk = 0 ∨ ¬ 1 < parts := by omega
      have hlb : l.length ≤ 5 := by omega
      clear hlt
      skip
      skip
      have hstop : (decide (0 < kk) && decide (1 < parts)) = false := by rw [Bool.and_eq_false_iff, decide_eq_false_iff_not, decide_eq_false_iff_not]; omega
      rcases hex with rfl | hnp
      · skip
        skip
        go_wp2_with fail; refine (odd_any _ (k) _ _ (by repeat (first | exact hS.rd | apply Rd.drew | apply Rd.alloc | (apply Rd.setCell; rotate_left; assumption))) (by omega) (by omega)).mono ?_; rintro e w1 ⟨q, rfl, hs⟩; replace own1 := Own.stpOf own1 hs (by repeat (first | exact own1 | apply Own.alloc | apply Own.drew)) (by assumption); replace hS := Stp.trans (by repeat (first | exact hS | apply Stp.drew | apply Stp.alloc | (apply Stp.set; assumption; assumption))) hs; clear hs
        cases q
        · go_wp2
          obtain ⟨A9, c9, rfl, hA9, hsl9, hfr9⟩ := own1.sl encC
          go_ret
          exact ⟨⟨A9, _, c9, l⟩, rfl, ⟨hsl9, fun g o e => (hfr9 g o e).1, hA9.1, hA9.2⟩, by simp only []; omega, BB.out, hS.le (by omega)⟩
        · go_wp2_with fail; refine (pick_any _ (5) _ _ (by repeat (first | exact hS.rd | apply Rd.drew | apply Rd.alloc | (apply Rd.setCell; rotate_left; assumption))) (by omega) (by omega)).mono ?_; rintro e w2 ⟨v2, rfl, hv20, hv21, hs⟩; replace own1 := Own.stpOf own1 hs (by repeat (first | exact own1 | apply Own.alloc | apply Own.drew)) (by assumption); replace hS := Stp.trans (by repeat (first | exact hS | apply Stp.drew | apply Stp.alloc | (apply Stp.set; assumption; assumption))) hs; clear hs
          rcases (show v2 = 0 ∨ v2 = 1 ∨ v2 = 2 ∨ v2 = 3 ∨ v2 = 4 by omega) with rfl | rfl | rfl | rfl | rfl
          · have B1 := Blk.new w2 3 #[.int .i64 0, .int .i64 4]; have lB1 := hS.rd.lt; have nB1 := Nat.ne_of_gt lB1; have sB1 := hS.grown.size
            go_wp2_with fail; refine (pick_any _ (2) _ _ (by repeat (first | exact hS.rd | apply Rd.drew | apply Rd.alloc | (apply Rd.setCell; rotate_left; assumption))) (by omega) (by omega)).mono ?_; rintro e w3 ⟨v3, rfl, hv30, hv31, hs⟩; replace own1 := Own.stpOf own1 hs (by repeat (first | exact own1 | apply Own.alloc | apply Own.drew)) (by assumption); replace B1 := Blk.stpOf B1 hs (by repeat (first | exact B1 | apply Blk.alloc | apply Blk.drew | (apply Blk.far; rotate_left; (first | assumption | exact Ne.symm (by assumption))) | apply Blk.set_)) (by assumption); replace hS := Stp.trans (by repeat (first | exact hS | apply Stp.drew | apply Stp.alloc | (apply Stp.set; assumption; assumption))) hs; clear hs
            have hs3 := sel_bd (lo := 0) (hi := 5) [0, 4] (by simp) (by simp) v3 hv30 hv31
            have g1 := (B1.cell v3.toNat).trans (litq2 hv30 hv31 _ _)
            generalize sel [0, 4] v3 = y at *
            have src := chan_one w3 y 0 1 1
            have own2 := own1.alloc (.cells #[.int .i64 y, .int .i64 0, .int .i64 1, .int .i64 1] 25)
            have hS2 := hS.alloc (.cells #[.int .i64 y, .int .i64 0, .int .i64 1, .int .i64 1] 25)
            go_wp2_with (at_builtin; refine app_own rfl _ _ appChan rfl encC w.heap.size _ l rfl own2 _ 1 1 [(y, 0, 1, 1)] rfl (fun e => by cases e) src (by omega) hS2.grown.size ?_; intro v' w9 own5 hg5; have hS5 := hS2.app own2 hg5 (Nat.le_refl _) hr0)
            obtain ⟨A9, c9, rfl, hA9, hsl9, hfr9⟩ := own5.sl encC
            go_ret
            exact ⟨⟨A9, _, c9, l ++ [(y, 0, 1, 1)]⟩, rfl, ⟨hsl9, fun g o e => (hfr9 g o e).1, hA9.1, hA9.2⟩, by simp; omega, (fun z hz => (List.mem_append.1 hz).elim (BB.out z) (fun h => by rw [List.mem_singleton.1 h]; unfold ChanB; simp only []; omega)), hS5.le (by omega)⟩
          · skip
            have src := chan_one w2 2 0 0 1
            have own2 := own1.alloc (.cells #[.int .i64 2, .int .i64 0, .int .i64 0, .int .i64 1] 25)
            have hS2 := hS.alloc (.cells #[.int .i64 2, .int .i64 0, .int .i64 0, .int .i64 1] 25)
            go_wp2_with (at_builtin; refine app_own rfl _ _ appChan rfl encC w.heap.size _ l rfl own2 _ 1 1 [(2, 0, 0, 1)] rfl (fun e => by cases e) src (by omega) hS2.grown.size ?_; intro v' w9 own5 hg5; have hS5 := hS2.app own2 hg5 (Nat.le_refl _) hr0)
            obtain ⟨A9, c9, rfl, hA9, hsl9, hfr9⟩ := own5.sl encC
            go_ret
            exact ⟨⟨A9, _, c9, l ++ [(2, 0, 0, 1)]⟩, rfl, ⟨hsl9, fun g o e => (hfr9 g o e).1, hA9.1, hA9.2⟩, by simp; omega, (fun z hz => (List.mem_append.1 hz).elim (BB.out z) (fun h => by rw [List.mem_singleton.1 h]; unfold ChanB; simp only []; omega)), hS5.le (by omega)⟩
          · have src := chan_one w2 2 0 parts 1
            have own2 := own1.alloc (.cells #[.int .i64 2, .int .i64 0, .int .i64 parts, .int .i64 1] 25)
            have hS2 := hS.alloc (.cells #[.int .i64 2, .int .i64 0, .int .i64 parts, .int .i64 1] 25)
            go_wp2_with (at_builtin; refine app_own rfl _ _ appChan rfl encC w.heap.size _ l rfl own2 _ 1 1 [(2, 0, parts, 1)] rfl (fun e => by cases e) src (by omega) hS2.grown.size ?_; intro v' w9 own5 hg5; have hS5 := hS2.app own2 hg5 (Nat.le_refl _) hr0)
            obtain ⟨A9, c9, rfl, hA9, hsl9, hfr9⟩ := own5.sl encC
            go_ret
            exact ⟨⟨A9, _, c9, l ++ [(2, 0, parts, 1)]⟩, rfl, ⟨hsl9, fun g o e => (hfr9 g o e).1, hA9.1, hA9.2⟩, by simp; omega, (fun z hz => (List.mem_append.1 hz).elim (BB.out z) (fun h => by rw [List.mem_singleton.1 h]; unfold ChanB; simp only []; omega)), hS5.le (by omega)⟩
          · have src := chan_one w2 1 0 1 2
            have own2 := own1.alloc (.cells #[.int .i64 1, .int .i64 0, .int .i64 1, .int .i64 2] 25)
            have hS2 := hS.alloc (.cells #[.int .i64 1, .int .i64 0, .int .i64 1, .int .i64 2] 25)
            go_wp2_with (at_builtin; refine app_own rfl _ _ appChan rfl encC w.heap.size _ l rfl own2 _ 1 1 [(1, 0, 1, 2)] rfl (fun e => by cases e) src (by omega) hS2.grown.size ?_; intro v' w9 own5 hg5; have hS5 := hS2.app own2 hg5 (Nat.le_refl _) hr0)
            obtain ⟨A9, c9, rfl, hA9, hsl9, hfr9⟩ := own5.sl encC
            go_ret
            exact ⟨⟨A9, _, c9, l ++ [(1, 0, 1, 2)]⟩, rfl, ⟨hsl9, fun g o e => (hfr9 g o e).1, hA9.1, hA9.2⟩, by simp; omega, (fun z hz => (List.mem_append.1 hz).elim (BB.out z) (fun h => by rw [List.mem_singleton.1 h]; unfold ChanB; simp only []; omega)), hS5.le (by omega)⟩
          · go_wp2_with (at_make; refine make_own rfl _ _ zeroChan rfl encC w.heap.size _ _ 9 rfl rfl (by omega) (by omega) (by omega) hS.grown.size ?_; intro w9 own9 hg9; have hS9 := hS.none hg9)
            go_ret
            exact ⟨⟨_, _, _, List.replicate 9 (0, 0, 0, 0)⟩, rfl, own9.okv encC, by simp, (fun z hz => by rw [List.eq_of_mem_replicate hz]; unfold ChanB; simp), hS9.le (by omega)⟩
      · by_cases hkz : 0 < kk
        · skip
          skip
          go_wp2_with fail; refine (odd_any _ (k) _ _ (by repeat (first | exact hS.rd | apply Rd.drew | apply Rd.alloc | (apply Rd.setCell; rotate_left; assumption))) (by omega) (by omega)).mono ?_; rintro e w1 ⟨q, rfl, hs⟩; replace own1 := Own.stpOf own1 hs (by repeat (first | exact own1 | apply Own.alloc | apply Own.drew)) (by assumption); replace hS := Stp.trans (by repeat (first | exact hS | apply Stp.drew | apply Stp.alloc | (apply Stp.set; assumption; assumption))) hs; clear hs
          cases q
          · go_wp2
            obtain ⟨A9, c9, rfl, hA9, hsl9, hfr9⟩ := own1.sl encC
            go_ret
            exact ⟨⟨A9, _, c9, l⟩, rfl, ⟨hsl9, fun g o e => (hfr9 g o e).1, hA9.1, hA9.2⟩, by simp only []; omega, BB.out, hS.le (by omega)⟩
          · go_wp2_with fail; refine (pick_any _ (5) _ _ (by repeat (first | exact hS.rd | apply Rd.drew | apply Rd.alloc | (apply Rd.setCell; rotate_left; assumption))) (by omega) (by omega)).mono ?_; rintro e w2 ⟨v2, rfl, hv20, hv21, hs⟩; replace own1 := Own.stpOf own1 hs (by repeat (first | exact own1 | apply Own.alloc | apply Own.drew)) (by assumption); replace hS := Stp.trans (by repeat (first | exact hS | apply Stp.drew | apply Stp.alloc | (apply Stp.set; assumption; assumption))) hs; clear hs
            rcases (show v2 = 0 ∨ v2 = 1 ∨ v2 = 2 ∨ v2 = 3 ∨ v2 = 4 by omega) with rfl | rfl | rfl | rfl | rfl
            · have B1 := Blk.new w2 3 #[.int .i64 0, .int .i64 4]; have lB1 := hS.rd.lt; have nB1 := Nat.ne_of_gt lB1; have sB1 := hS.grown.size
              go_wp2_with fail; refine (pick_any _ (2) _ _ (by repeat (first | exact hS.rd | apply Rd.drew | apply Rd.alloc | (apply Rd.setCell; rotate_left; assumption))) (by omega) (by omega)).mono ?_; rintro e w3 ⟨v3, rfl, hv30, hv31, hs⟩; replace own1 := Own.stpOf own1 hs (by repeat (first | exact own1 | apply Own.alloc | apply Own.drew)) (by assumption); replace B1 := Blk.stpOf B1 hs (by repeat (first | exact B1 | apply Blk.alloc | apply Blk.drew | (apply Blk.far; rotate_left; (first | assumption | exact Ne.symm (by assumption))) | apply Blk.set_)) (by assumption); replace hS := Stp.trans (by repeat (first | exact hS | apply Stp.drew | apply Stp.alloc | (apply Stp.set; assumption; assumption))) hs; clear hs
              have hs3 := sel_bd (lo := 0) (hi := 5) [0, 4] (by simp) (by simp) v3 hv30 hv31
              have g1 := (B1.cell v3.toNat).trans (litq2 hv30 hv31 _ _)
              generalize sel [0, 4] v3 = y at *
              have src := chan_one w3 y 0 1 1
              have own2 := own1.alloc (.cells #[.int .i64 y, .int .i64 0, .int .i64 1, .int .i64 1] 25)
              have hS2 := hS.alloc (.cells #[.int .i64 y, .int .i64 0, .int .i64 1, .int .i64 1] 25)
              go_wp2_with (at_builtin; refine app_own rfl _ _ appChan rfl encC w.heap.size _ l rfl own2 _ 1 1 [(y, 0, 1, 1)] rfl (fun e => by cases e) src (by omega) hS2.grown.size ?_; intro v' w9 own5 hg5; have hS5 := hS2.app own2 hg5 (Nat.le_refl _) hr0)
              obtain ⟨A9, c9, rfl, hA9, hsl9, hfr9⟩ := own5.sl encC
              go_ret
              exact ⟨⟨A9, _, c9, l ++ [(y, 0, 1, 1)]⟩, rfl, ⟨hsl9, fun g o e => (hfr9 g o e).1, hA9.1, hA9.2⟩, by simp; omega, (fun z hz => (List.mem_append.1 hz).elim (BB.out z) (fun h => by rw [List.mem_singleton.1 h]; unfold ChanB; simp only []; omega)), hS5.le (by omega)⟩
            · skip
              have src := chan_one w2 2 0 0 1
              have own2 := own1.alloc (.cells #[.int .i64 2, .int .i64 0, .int .i64 0, .int .i64 1] 25)
              have hS2 := hS.alloc (.cells #[.int .i64 2, .int .i64 0, .int .i64 0, .int .i64 1] 25)
              go_wp2_with (at_builtin; refine app_own rfl _ _ appChan rfl encC w.heap.size _ l rfl own2 _ 1 1 [(2, 0, 0, 1)] rfl (fun e => by cases e) src (by omega) hS2.grown.size ?_; intro v' w9 own5 hg5; have hS5 := hS2.app own2 hg5 (Nat.le_refl _) hr0)
              obtain ⟨A9, c9, rfl, hA9, hsl9, hfr9⟩ := own5.sl encC
              go_ret
              exact ⟨⟨A9, _, c9, l ++ [(2, 0, 0, 1)]⟩, rfl, ⟨hsl9, fun g o e => (hfr9 g o e).1, hA9.1, hA9.2⟩, by simp; omega, (fun z hz => (List.mem_append.1 hz).elim (BB.out z) (fun h => by rw [List.mem_singleton.1 h]; unfold ChanB; simp only []; omega)), hS5.le (by omega)⟩
            · have src := chan_one w2 2 0 parts 1
              have own2 := own1.alloc (.cells #[.int .i64 2, .int .i64 0, .int .i64 parts, .int .i64 1] 25)
              have hS2 := hS.alloc (.cells #[.int .i64 2, .int .i64 0, .int .i64 parts, .int .i64 1] 25)
              go_wp2_with (at_builtin; refine app_own rfl _ _ appChan rfl encC w.heap.size _ l rfl own2 _ 1 1 [(2, 0, parts, 1)] rfl (fun e => by cases e) src (by omega) hS2.grown.size ?_; intro v' w9 own5 hg5; have hS5 := hS2.app own2 hg5 (Nat.le_refl _) hr0)
              obtain ⟨A9, c9, rfl, hA9, hsl9, hfr9⟩ := own5.sl encC
              go_ret
              exact ⟨⟨A9, _, c9, l ++ [(2, 0, parts, 1)]⟩, rfl, ⟨hsl9, fun g o e => (hfr9 g o e).1, hA9.1, hA9.2⟩, by simp; omega, (fun z hz => (List.mem_append.1 hz).elim (BB.out z) (fun h => by rw [List.mem_singleton.1 h]; unfold ChanB; simp only []; omega)), hS5.le (by omega)⟩
            · have src := chan_one w2 1 0 1 2
              have own2 := own1.alloc (.cells #[.int .i64 1, .int .i64 0, .int .i64 1, .int .i64 2] 25)
              have hS2 := hS.alloc (.cells #[.int .i64 1, .int .i64 0, .int .i64 1, .int .i64 2] 25)
              go_wp2_with (at_builtin; refine app_own rfl _ _ appChan rfl encC w.heap.size _ l rfl own2 _ 1 1 [(1, 0, 1, 2)] rfl (fun e => by cases e) src (by omega) hS2.grown.size ?_; intro v' w9 own5 hg5; have hS5 := hS2.app own2 hg5 (Nat.le_refl _) hr0)
              obtain ⟨A9, c9, rfl, hA9, hsl9, hfr9⟩ := own5.sl encC
              go_ret
              exact ⟨⟨A9, _, c9, l ++ [(1, 0, 1, 2)]⟩, rfl, ⟨hsl9, fun g o e => (hfr9 g o e).1, hA9.1, hA9.2⟩, by simp; omega, (fun z hz => (List.mem_append.1 hz).elim (BB.out z) (fun h => by rw [List.mem_singleton.1 h]; unfold ChanB; simp only []; omega)), hS5.le (by omega)⟩
            · go_wp2_with (at_make; refine make_own rfl _ _ zeroChan rfl encC w.heap.size _ _ 9 rfl rfl (by omega) (by omega) (by omega) hS.grown.size ?_; intro w9 own9 hg9; have hS9 := hS.none hg9)
              go_ret
              exact ⟨⟨_, _, _, List.replicate 9 (0, 0, 0, 0)⟩, rfl, own9.okv encC, by simp, (fun z hz => by rw [List.eq_of_mem_replicate hz]; unfold ChanB; simp), hS9.le (by omega)⟩
        · skip
          skip
          go_wp2_with fail; refine (odd_any _ (k) _ _ (by repeat (first | exact hS.rd | apply Rd.drew | apply Rd.alloc | (apply Rd.setCell; rotate_left; assumption))) (by omega) (by omega)).mono ?_; rintro e w1 ⟨q, rfl, hs⟩; replace own1 := Own.stpOf own1 hs (by repeat (first | exact own1 | apply Own.alloc | apply Own.drew)) (by assumption); replace hS := Stp.trans (by repeat (first | exact hS | apply Stp.drew | apply Stp.alloc | (apply Stp.set; assumption; assumption))) hs; clear hs
          cases q
          · go_wp2
            obtain ⟨A9, c9, rfl, hA9, hsl9, hfr9⟩ := own1.sl encC
            go_ret
            exact ⟨⟨A9, _, c9, l⟩, rfl, ⟨hsl9, fun g o e => (hfr9 g o e).1, hA9.1, hA9.2⟩, by simp only []; omega, BB.out, hS.le (by omega)⟩
          · go_wp2_with fail; refine (pick_any _ (5) _ _ (by repeat (first | exact hS.rd | apply Rd.drew | apply Rd.alloc | (apply Rd.setCell; rotate_left; assumption))) (by omega) (by omega)).mono ?_; rintro e w2 ⟨v2, rfl, hv20, hv21, hs⟩; replace own1 := Own.stpOf own1 hs (by repeat (first | exact own1 | apply Own.alloc | apply Own.drew)) (by assumption); replace hS := Stp.trans (by repeat (first | exact hS | apply Stp.drew | apply Stp.alloc | (apply Stp.set; assumption; assumption))) hs; clear hs
            rcases (show v2 = 0 ∨ v2 = 1 ∨ v2 = 2 ∨ v2 = 3 ∨ v2 = 4 by omega) with rfl | rfl | rfl | rfl | rfl
            · have B1 := Blk.new w2 3 #[.int .i64 0, .int .i64 4]; have lB1 := hS.rd.lt; have nB1 := Nat.ne_of_gt lB1; have sB1 := hS.grown.size
              go_wp2_with fail; refine (pick_any _ (2) _ _ (by repeat (first | exact hS.rd | apply Rd.drew | apply Rd.alloc | (apply Rd.setCell; rotate_left; assumption))) (by omega) (by omega)).mono ?_; rintro e w3 ⟨v3, rfl, hv30, hv31, hs⟩; replace own1 := Own.stpOf own1 hs (by repeat (first | exact own1 | apply Own.alloc | apply Own.drew)) (by assumption); replace B1 := Blk.stpOf B1 hs (by repeat (first | exact B1 | apply Blk.alloc | apply Blk.drew | (apply Blk.far; rotate_left; (first | assumption | exact Ne.symm (by assumption))) | apply Blk.set_)) (by assumption); replace hS := Stp.trans (by repeat (first | exact hS | apply Stp.drew | apply Stp.alloc | (apply Stp.set; assumption; assumption))) hs; clear hs
              have hs3 := sel_bd (lo := 0) (hi := 5) [0, 4] (by simp) (by simp) v3 hv30 hv31
              have g1 := (B1.cell v3.toNat).trans (litq2 hv30 hv31 _ _)
              generalize sel [0, 4] v3 = y at *
              have src := chan_one w3 y 0 1 1
              have own2 := own1.alloc (.cells #[.int .i64 y, .int .i64 0, .int .i64 1, .int .i64 1] 25)
              have hS2 := hS.alloc (.cells #[.int .i64 y, .int .i64 0, .int .i64 1, .int .i64 1] 25)
              go_wp2_with (at_builtin; refine app_own rfl _ _ appChan rfl encC w.heap.size _ l rfl own2 _ 1 1 [(y, 0, 1, 1)] rfl (fun e => by cases e) src (by omega) hS2.grown.size ?_; intro v' w9 own5 hg5; have hS5 := hS2.app own2 hg5 (Nat.le_refl _) hr0)
              obtain ⟨A9, c9, rfl, hA9, hsl9, hfr9⟩ := own5.sl encC
              go_ret
              exact ⟨⟨A9, _, c9, l ++ [(y, 0, 1, 1)]⟩, rfl, ⟨hsl9, fun g o e => (hfr9 g o e).1, hA9.1, hA9.2⟩, by simp; omega, (fun z hz => (List.mem_append.1 hz).elim (BB.out z) (fun h => by rw [List.mem_singleton.1 h]; unfold ChanB; simp only []; omega)), hS5.le (by omega)⟩
            · skip
              have src := chan_one w2 2 0 0 1
              have own2 := own1.alloc (.cells #[.int .i64 2, .int .i64 0, .int .i64 0, .int .i64 1] 25)
              have hS2 := hS.alloc (.cells #[.int .i64 2, .int .i64 0, .int .i64 0, .int .i64 1] 25)
              go_wp2_with (at_builtin; refine app_own rfl _ _ appChan rfl encC w.heap.size _ l rfl own2 _ 1 1 [(2, 0, 0, 1)] rfl (fun e => by cases e) src (by omega) hS2.grown.size ?_; intro v' w9 own5 hg5; have hS5 := hS2.app own2 hg5 (Nat.le_refl _) hr0)
              obtain ⟨A9, c9, rfl, hA9, hsl9, hfr9⟩ := own5.sl encC
              go_ret
              exact ⟨⟨A9, _, c9, l ++ [(2, 0, 0, 1)]⟩, rfl, ⟨hsl9, fun g o e => (hfr9 g o e).1, hA9.1, hA9.2⟩, by simp; omega, (fun z hz => (List.mem_append.1 hz).elim (BB.out z) (fun h => by rw [List.mem_singleton.1 h]; unfold ChanB; simp only []; omega)), hS5.le (by omega)⟩
            · have src := chan_one w2 2 0 parts 1
              have own2 := own1.alloc (.cells #[.int .i64 2, .int .i64 0, .int .i64 parts, .int .i64 1] 25)
              have hS2 := hS.alloc (.cells #[.int .i64 2, .int .i64 0, .int .i64 parts, .int .i64 1] 25)
              go_wp2_with (at_builtin; refine app_own rfl _ _ appChan rfl encC w.heap.size _ l rfl own2 _ 1 1 [(2, 0, parts, 1)] rfl (fun e => by cases e) src (by omega) hS2.grown.size ?_; intro v' w9 own5 hg5; have hS5 := hS2.app own2 hg5 (Nat.le_refl _) hr0)
              obtain ⟨A9, c9, rfl, hA9, hsl9, hfr9⟩ := own5.sl encC
              go_ret
              exact ⟨⟨A9, _, c9, l ++ [(2, 0, parts, 1)]⟩, rfl, ⟨hsl9, fun g o e => (hfr9 g o e).1, hA9.1, hA9.2⟩, by simp; omega, (fun z hz => (List.mem_append.1 hz).elim (BB.out z) (fun h => by rw [List.mem_singleton.1 h]; unfold ChanB; simp only []; omega)), hS5.le (by omega)⟩
            · have src := chan_one w2 1 0 1 2
              have own2 := own1.alloc (.cells #[.int .i64 1, .int .i64 0, .int .i64 1, .int .i64 2] 25)
              have hS2 := hS.alloc (.cells #[.int .i64 1, .int .i64 0, .int .i64 1, .int .i64 2] 25)
              go_wp2_with (at_builtin; refine app_own rfl _ _ appChan rfl encC w.heap.size _ l rfl own2 _ 1 1 [(1, 0, 1, 2)] rfl (fun e => by cases e) src (by omega) hS2.grown.size ?_; intro v' w9 own5 hg5; have hS5 := hS2.app own2 hg5 (Nat.le_refl _) hr0)
              obtain ⟨A9, c9, rfl, hA9, hsl9, hfr9⟩ := own5.sl encC
              go_ret
              exact ⟨⟨A9, _, c9, l ++ [(1, 0, 1, 2)]⟩, rfl, ⟨hsl9, fun g o e => (hfr9 g o e).1, hA9.1, hA9.2⟩, by simp; omega, (fun z hz => (List.mem_append.1 hz).elim (BB.out z) (fun h => by rw [List.mem_singleton.1 h]; unfold ChanB; simp only []; omega)), hS5.le (by omega)⟩
            · go_wp2_with (at_make; refine make_own rfl _ _ zeroChan rfl encC w.heap.size _ _ 9 rfl rfl (by omega) (by omega) (by omega) hS.grown.size ?_; intro w9 own9 hg9; have hS9 := hS.none hg9)
              go_ret
              exact ⟨⟨_, _, _, List.replicate 9 (0, 0, 0, 0)⟩, rfl, own9.okv encC, by simp, (fun z hz => by rw [List.eq_of_mem_replicate hz]; unfold ChanB; simp), hS9.le (by omega)⟩
end Go.Proofs.Ythellpcohdbbfaa
