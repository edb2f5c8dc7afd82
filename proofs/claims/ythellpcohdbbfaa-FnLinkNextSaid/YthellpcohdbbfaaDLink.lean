/- Links drawn: l20Link, DrawLinkValid, DrawLinkNext. -/
import Derived.Test.YthellpcohdbbfaaPick
import Derived.Test.YthellpcohdbbfaaLinkS
import Derived.Deep.RegionWith
namespace Go.Proofs.Ythellpcohdbbfaa
set_option linter.unusedVariables false
set_option linter.unusedSimpArgs false
open Go.RowKit

def snV (d : Int) (n : Nat) (s : Option Addr × Nat) : Value := .tuple #[.agg #[.int .i64 d, .slice s.1 (n + 1) s.2], .bool true]
/-- LinkSend where there is room, onto a list of the call's own. -/
theorem specSendLK {d : Int} {xs : List (Int × Int)} {a t v : Int} {A : Option Addr} {c base : Nat} {W : World} (h : LK d xs a) (ha : a ≤ t) (h0 : 0 ≤ t ∧ t ≤ 1000) (hv : 0 ≤ v ∧ v ≤ 255) (hl : xs.length < 20) (hO : Own W base 59 2 eS (.slice A xs.length c) xs) :
    Calls Try.prog 84 #[.agg #[.int .i64 d, .slice A xs.length c], .int .i64 t, .int .i64 v] W (Post (snV d xs.length) fun s w' => Own w' W.heap.size 59 2 eS (.slice s.1 (xs.length + 1) s.2) (xs ++ [(t + d, v)]) ∧ Below W.heap.size W w') := by
  obtain ⟨A', c', hv', hA, hsl, -⟩ := hO.sl encS
  injection hv' with e1 e2 e3
  subst e1 e3
  refine (specLinkSend_any d A xs.length c xs t v (by omega) hA.1 W hsl).mono ?_
  rintro e w6 ⟨⟨⟨d6, xs6⟩, v6, ok6⟩, rfl, own6, heq6, hb6⟩
  simp only [] at own6 heq6
  rw [(h.send ha h0 hv hl).1] at heq6
  injection heq6 with hq1 hq2
  injection hq1 with hq3 hq4
  subst hq2 hq3 hq4
  obtain ⟨A6, c6, hv6, -, -, -⟩ := own6.sl encS
  rw [List.length_append, List.length_singleton] at hv6
  subst hv6
  exact ⟨(A6, c6), rfl, own6, hb6⟩
def lkV (x : Int × SV (Int × Int)) : Value := linkV x.1 x.2.A x.2.n x.2.c
set_option maxRecDepth 100000 in
set_option maxHeartbeats 4000000 in
theorem l20Link_any (r : Nat) (k b : Int) (w : World) (h : Rd w r 88 b) (hb : b ≤ 999998000) (hk : -1000 ≤ k) :
    Calls Try.prog 71 #[.pointer (some ⟨r, 0, none⟩), .int .i64 k] w (Post lkV fun x w' => SV.ok w' w.heap.size 2 eS x.2 ∧ x.2.n ≤ 30 ∧ Stp r 88 w (b + 100) w') := by
  have hS := Stp.refl h
  have hr0 := h.lt
  skip
  have B1 := Blk.new w 55 #[.int .i64 0, .slice none 0 0]; have lB1 := hS.rd.lt; have nB1 := Nat.ne_of_gt lB1; have sB1 := hS.grown.size
  clear h
  go_enter Try.func71, Try.ntmps71
  go_wp2_with fail; refine (pick_any _ (9) _ _ (by repeat (first | exact hS.rd | apply Rd.drew | apply Rd.alloc | (apply Rd.setCell; rotate_left; assumption))) (by omega) (by omega)).mono ?_; rintro e w1 ⟨v1, rfl, hv10, hv11, hs⟩; replace B1 := Blk.stpOf B1 hs (by repeat (first | exact B1 | apply Blk.alloc | apply Blk.drew | (apply Blk.far; rotate_left; (first | assumption | exact Ne.symm (by assumption))) | apply Blk.set_)) (by assumption); replace hS := Stp.trans (by repeat (first | exact hS | apply Stp.drew | apply Stp.alloc | (apply Stp.set; assumption; assumption))) hs; clear hs
  have B2 := Blk.new w1 55 #[.int .i64 v1, .slice none 0 0]; have lB2 := hS.rd.lt; have nB2 := Nat.ne_of_gt lB2; have sB2 := hS.grown.size; have dB1B2 := Nat.ne_of_lt B1.lt
  have hB2l := B2.lt
  have lB3 : r < w1.heap.size + 1 := by omega
  go_wp2_with fail; refine (pick_any _ (8) _ _ (by repeat (first | exact hS.rd | apply Rd.drew | apply Rd.alloc | (apply Rd.setCell; rotate_left; assumption))) (by omega) (by omega)).mono ?_; rintro e w2 ⟨v2, rfl, hv20, hv21, hs⟩; replace B1 := Blk.stpOf B1 hs (by repeat (first | exact B1 | apply Blk.alloc | apply Blk.drew | (apply Blk.far; rotate_left; (first | assumption | exact Ne.symm (by assumption))) | apply Blk.set_)) (by assumption); replace B2 := Blk.stpOf B2 hs (by repeat (first | exact B2 | apply Blk.alloc | apply Blk.drew | (apply Blk.far; rotate_left; (first | assumption | exact Ne.symm (by assumption))) | apply Blk.set_)) (by assumption); replace hS := Stp.trans (by repeat (first | exact hS | apply Stp.drew | apply Stp.alloc | (apply Stp.set; assumption; assumption))) hs; clear hs
  go_wp2
  go_loopg [6, 7] 8 (fun gg s6 s7 wr => ∃ (kk at' : Int) (xs : List (Int × Int)) (v : Value), 0 ≤ kk ∧ kk ≤ gg ∧ gg ≤ 8 ∧ s6 = .int .i64 at' ∧ s7 = .int .i64 kk ∧ 0 ≤ at' ∧ at' + 4 * kk ≤ 32 ∧ xs.length + kk ≤ 8 ∧ Aside (LK v1 xs at') ∧ Aside (Blk wr w.heap.size 55 #[.int .i64 0, .slice none 0 0]) ∧ Aside (Blk wr w1.heap.size 55 #[.int .i64 v1, v]) ∧ Aside (Own wr (w1.heap.size + 1) 59 2 eS v xs) ∧ Aside (Stp r 88 w (b + 2 + 2 * xs.length) wr))
  case atStart => exact ⟨v2, 0, [], _, by omega, by omega, by omega, rfl, rfl, by omega, by omega, by simp; omega, (show Aside _ from ⟨by simp [linkOk, pktsOk, inB_true]; omega, fun p hp => by cases hp⟩), (show Aside _ from B1), (show Aside _ from B2), (show Aside _ from Own.nil), (show Aside _ from hS.le (by simp; omega))⟩
  case round =>
    obtain ⟨kk, at', xs, v, hk0, hk1, hg, rfl, rfl, ha0, hak, hl, LL, BB1, BB2, OW, SS⟩ := hrel
    clear hS B1 B2
    have hS := SS.out
    have own1 := OW.out
    have B1 := BB1.out
    have B2 := BB2.out
    clear SS OW BB1 BB2
    have d1 := dB1B2
    by_cases hlt : 0 < kk
    · skip
      skip
      go_wp2_with fail; refine (pick_any _ (4) _ _ (by repeat (first | exact hS.rd | apply Rd.drew | apply Rd.alloc | (apply Rd.setCell; rotate_left; assumption))) (by omega) (by omega)).mono ?_; rintro e w3 ⟨v3, rfl, hv30, hv31, hs⟩; replace own1 := Own.stpOf own1 hs (by repeat (first | exact own1 | apply Own.alloc | apply Own.drew)) (by assumption); replace B1 := Blk.stpOf B1 hs (by repeat (first | exact B1 | apply Blk.alloc | apply Blk.drew | (apply Blk.far; rotate_left; (first | assumption | exact Ne.symm (by assumption))) | apply Blk.set_)) (by assumption); replace B2 := Blk.stpOf B2 hs (by repeat (first | exact B2 | apply Blk.alloc | apply Blk.drew | (apply Blk.far; rotate_left; (first | assumption | exact Ne.symm (by assumption))) | apply Blk.set_)) (by assumption); replace hS := Stp.trans (by repeat (first | exact hS | apply Stp.drew | apply Stp.alloc | (apply Stp.set; assumption; assumption))) hs; clear hs
      have HS := Lib.hid (fun (v : Int) (hv : 0 ≤ v ∧ v ≤ 255) => LL.out.send (t := at' + v3) (by omega) (by omega) hv (by omega))
      obtain ⟨A9, c9, rfl, -, -, -⟩ := own1.sl encS
      have hLS := fun W v hv hO => specSendLK (W := W) (t := at' + v3) (v := v) (A := A9) (c := c9) (base := w1.heap.size + 1) LL.out (by omega) (by omega) hv (by omega) hO
      have cB1_0 := B1.c0; have cB1_1 := B1.c1; have fB1 := B1.frozen; have cB2_0 := B2.c0; have cB2_1 := B2.c1; have fB2 := B2.frozen
      go_wp2_with fail
      go_region_with (first
        | ((go_at_call 55; refine (pick_any _ (_) _ _ (by repeat (first | exact hS.rd | apply Rd.drew | apply Rd.alloc | (apply Rd.setCell; rotate_left; assumption))) (by omega) (by omega)).mono ?_; rintro e w5 ⟨v4, rfl, hv40, hv41, hs⟩; replace own1 := Own.stpOf own1 hs (by repeat (first | exact own1 | apply Own.alloc | apply Own.drew)) (by assumption); replace B1 := Blk.stpOf B1 hs (by repeat (first | exact B1 | apply Blk.alloc | apply Blk.drew | (apply Blk.far; rotate_left; (first | assumption | exact Ne.symm (by assumption))) | apply Blk.set_)) (by assumption); replace B2 := Blk.stpOf B2 hs (by repeat (first | exact B2 | apply Blk.alloc | apply Blk.drew | (apply Blk.far; rotate_left; (first | assumption | exact Ne.symm (by assumption))) | apply Blk.set_)) (by assumption); replace hS := Stp.trans (by repeat (first | exact hS | apply Stp.drew | apply Stp.alloc | (apply Stp.set; assumption; assumption))) hs; clear hs; have cB1_0 := B1.c0; have cB1_1 := B1.c1; have fB1 := B1.frozen; have cB2_0 := B2.c0; have cB2_1 := B2.c1; have fB2 := B2.frozen))
        | (go_at_call 84; refine (hLS _ v4 (by omega) (by repeat (first | exact own1 | apply Own.drew))).mono ?_; rintro e w6 ⟨⟨A6, c6⟩, rfl, own6, hb6⟩; simp only [snV] at own6 ⊢; replace own6 := own6.low (show w1.heap.size + 1 ≤ _ from B2.lt); skip; replace B1 := Blk.belowOf B1 hb6 (by repeat (first | exact B1 | apply Blk.drew)); replace B2 := Blk.belowOf B2 hb6 (by repeat (first | exact B2 | apply Blk.drew)); replace hS := Stp.none (by repeat (first | exact hS | apply Stp.drew)) (grown_of_below hb6 none); have cB1_0 := B1.c0; have cB1_1 := B1.c1; have fB1 := B1.frozen; have cB2_0 := B2.c0; have cB2_1 := B2.c1; have fB2 := B2.frozen))
      all_goals
        skip
        go_wp2
        go_roundg (gk - 1)
        case measure => omega
        case rel => exact ⟨kk - 1, at' + v3, xs ++ [(at' + v3 + v1, v4)], _, by omega, by omega, by omega, rfl, by go_num, by omega, by omega, by simp; omega, (show Aside _ from (HS.out v4 (by omega)).2), (show Aside _ from (B1.far (p := ⟨w1.heap.size, 0, none⟩) (by assumption) _).far (p := ⟨w1.heap.size, 1, none⟩) (by assumption) _), (show Aside _ from (B2.set_ 0 _).set_ 1 _), (show Aside _ from (own6.far (p := ⟨w1.heap.size, 0, none⟩) (by simp) _).far (p := ⟨w1.heap.size, 1, none⟩) (by simp) _), (show Aside _ from (Stp.set _ (by assumption) (by assumption) (Stp.set _ (by assumption) (by assumption) (hS.le (by simp; omega)))))⟩
    · obtain rfl : kk = 0 := by omega
      clear hlt
      skip
      skip
      go_wp2_with fail; refine (odd_any _ (14) _ _ (by repeat (first | exact hS.rd | apply Rd.drew | apply Rd.alloc | (apply Rd.setCell; rotate_left; assumption))) (by omega) (by omega)).mono ?_; rintro e w4 ⟨q1, rfl, hs⟩; replace own1 := Own.stpOf own1 hs (by repeat (first | exact own1 | apply Own.alloc | apply Own.drew)) (by assumption); replace B1 := Blk.stpOf B1 hs (by repeat (first | exact B1 | apply Blk.alloc | apply Blk.drew | (apply Blk.far; rotate_left; (first | assumption | exact Ne.symm (by assumption))) | apply Blk.set_)) (by assumption); replace B2 := Blk.stpOf B2 hs (by repeat (first | exact B2 | apply Blk.alloc | apply Blk.drew | (apply Blk.far; rotate_left; (first | assumption | exact Ne.symm (by assumption))) | apply Blk.set_)) (by assumption); replace hS := Stp.trans (by repeat (first | exact hS | apply Stp.drew | apply Stp.alloc | (apply Stp.set; assumption; assumption))) hs; clear hs
      cases q1
      · obtain ⟨A9, c9, rfl, hA9, -, -⟩ := own1.sl encS
        skip
        skip
        go_wp2_with fail; refine (odd_any _ (k) _ _ (by repeat (first | exact hS.rd | apply Rd.drew | apply Rd.alloc | (apply Rd.setCell; rotate_left; assumption))) (by omega) (by omega)).mono ?_; rintro e w7 ⟨q2, rfl, hs⟩; replace own1 := Own.stpOf own1 hs (by repeat (first | exact own1 | apply Own.alloc | apply Own.drew)) (by assumption); replace B1 := Blk.stpOf B1 hs (by repeat (first | exact B1 | apply Blk.alloc | apply Blk.drew | (apply Blk.far; rotate_left; (first | assumption | exact Ne.symm (by assumption))) | apply Blk.set_)) (by assumption); replace B2 := Blk.stpOf B2 hs (by repeat (first | exact B2 | apply Blk.alloc | apply Blk.drew | (apply Blk.far; rotate_left; (first | assumption | exact Ne.symm (by assumption))) | apply Blk.set_)) (by assumption); replace hS := Stp.trans (by repeat (first | exact hS | apply Stp.drew | apply Stp.alloc | (apply Stp.set; assumption; assumption))) hs; clear hs
        cases q2
        · have cB1_0 := B1.c0; have cB1_1 := B1.c1; have fB1 := B1.frozen; have cB2_0 := B2.c0; have cB2_1 := B2.c1; have fB2 := B2.frozen
          go_wp2
          exact bodyPost_ret (v := lkV (v1, ⟨A9, xs.length, c9, xs⟩)) (by simp [results, Try.results71, go_sem, lkV, linkV, cB1_0, cB1_1, cB2_0, cB2_1]) rfl ⟨(v1, ⟨A9, xs.length, c9, xs⟩), rfl, ((own1.far (p := ⟨w.heap.size, 0, none⟩) (by simp; omega) _).far (p := ⟨w.heap.size, 1, none⟩) (by simp; omega) _).okv encS |>.mono (by omega), by simp only []; omega, (by repeat (first | exact hS.le (by omega) | apply Stp.drew | apply Stp.alloc | (apply Stp.set; assumption; assumption)))⟩
        · go_wp2_with fail; refine (pick_any _ (4) _ _ (by repeat (first | exact hS.rd | apply Rd.drew | apply Rd.alloc | (apply Rd.setCell; rotate_left; assumption))) (by omega) (by omega)).mono ?_; rintro e w8 ⟨v5, rfl, hv50, hv51, hs⟩; replace own1 := Own.stpOf own1 hs (by repeat (first | exact own1 | apply Own.alloc | apply Own.drew)) (by assumption); replace B1 := Blk.stpOf B1 hs (by repeat (first | exact B1 | apply Blk.alloc | apply Blk.drew | (apply Blk.far; rotate_left; (first | assumption | exact Ne.symm (by assumption))) | apply Blk.set_)) (by assumption); replace B2 := Blk.stpOf B2 hs (by repeat (first | exact B2 | apply Blk.alloc | apply Blk.drew | (apply Blk.far; rotate_left; (first | assumption | exact Ne.symm (by assumption))) | apply Blk.set_)) (by assumption); replace hS := Stp.trans (by repeat (first | exact hS | apply Stp.drew | apply Stp.alloc | (apply Stp.set; assumption; assumption))) hs; clear hs
          rcases (show v5 = 0 ∨ v5 = 1 ∨ v5 = 2 ∨ v5 = 3 by omega) with rfl | rfl | rfl | rfl
          · replace own1 := own1.alloc (.cells #[.int .i64 (-1), .int .i64 51] 3)
            have B3 := Blk.new w8 3 #[.int .i64 (-1), .int .i64 51]; have lB3 := hS.rd.lt; have nB3 := Nat.ne_of_gt lB3; have sB3 := hS.grown.size; have dB1B3 := Nat.ne_of_lt B1.lt; have dB2B3 := Nat.ne_of_lt B2.lt
            go_wp2_with fail; refine (pick_any _ (2) _ _ (by repeat (first | exact hS.rd | apply Rd.drew | apply Rd.alloc | (apply Rd.setCell; rotate_left; assumption))) (by omega) (by omega)).mono ?_; rintro e w9 ⟨v6, rfl, hv60, hv61, hs⟩; replace own1 := Own.stpOf own1 hs (by repeat (first | exact own1 | apply Own.alloc | apply Own.drew)) (by assumption); replace B1 := Blk.stpOf B1 hs (by repeat (first | exact B1 | apply Blk.alloc | apply Blk.drew | (apply Blk.far; rotate_left; (first | assumption | exact Ne.symm (by assumption))) | apply Blk.set_)) (by assumption); replace B2 := Blk.stpOf B2 hs (by repeat (first | exact B2 | apply Blk.alloc | apply Blk.drew | (apply Blk.far; rotate_left; (first | assumption | exact Ne.symm (by assumption))) | apply Blk.set_)) (by assumption); replace B3 := Blk.stpOf B3 hs (by repeat (first | exact B3 | apply Blk.alloc | apply Blk.drew | (apply Blk.far; rotate_left; (first | assumption | exact Ne.symm (by assumption))) | apply Blk.set_)) (by assumption); replace hS := Stp.trans (by repeat (first | exact hS | apply Stp.drew | apply Stp.alloc | (apply Stp.set; assumption; assumption))) hs; clear hs
            have g3 := (B3.cell v6.toNat).trans (litq2 hv60 hv61 _ _)
            skip
            have cB1_0 := B1.c0; have cB1_1 := B1.c1; have fB1 := B1.frozen; have cB2_0 := B2.c0; have cB2_1 := B2.c1; have fB2 := B2.frozen
            go_wp2
            exact bodyPost_ret (v := lkV (sel [-1, 51] v6, ⟨A9, xs.length, c9, xs⟩)) (by simp [results, Try.results71, go_sem, lkV, linkV, cB1_0, cB1_1, cB2_0, cB2_1]) rfl ⟨(sel [-1, 51] v6, ⟨A9, xs.length, c9, xs⟩), rfl, (((own1.far (p := ⟨w1.heap.size, 0, none⟩) (by simp) _).far (p := ⟨w.heap.size, 0, none⟩) (by simp; omega) _).far (p := ⟨w.heap.size, 1, none⟩) (by simp; omega) _).okv encS |>.mono (by omega), by simp only []; omega, (by repeat (first | exact hS.le (by omega) | apply Stp.drew | apply Stp.alloc | (apply Stp.set; assumption; assumption)))⟩
          · have own2 := own1.alloc (.cells #[.int .i64 (-1), .int .i64 (0)] 59)
            have src := Sl.of_blk (xs := [(((-1), (0)) : Int × Int)]) (Blk.new w8 59 #[.int .i64 (-1), .int .i64 (0)]) encS (by simp)
            have hS2 := hS.alloc (.cells #[.int .i64 (-1), .int .i64 (0)] 59)
            have hz2 := B2.lt
            skip
            have cB1_0 := B1.c0; have cB1_1 := B1.c1; have fB1 := B1.frozen; have cB2_0 := B2.c0; have cB2_1 := B2.c1; have fB2 := B2.frozen
            go_wp2_with (at_builtin; (refine app_own rfl _ _ appPkt rfl encS (w1.heap.size + 1) _ xs rfl own2 _ 1 1 [(((-1), (0)) : Int × Int)] rfl (fun e => by cases e) src (by omega) (by simp; omega) ?_); (intro v' w9 own5 hg5; have B1a := (B1.alloc (.cells #[.int .i64 (-1), .int .i64 (0)] 59)).app own2 hg5 (by omega); have B2a := (B2.alloc (.cells #[.int .i64 (-1), .int .i64 (0)] 59)).app own2 hg5 (by omega); have hS6 := hS2.app own2 hg5 (by omega) (by omega); have e1 := B1a.c0; have e2 := B1a.frozen; have e3 := B2a.c0; have e4 := B2a.frozen; have e5 := B1a.c1; have e6 := B2a.c1; obtain ⟨A5, c5, rfl, _, _, _⟩ := own5.sl encS; rw [List.length_append, List.length_singleton] at own5))
            exact bodyPost_ret (v := lkV (v1, ⟨A5, _, c5, xs ++ [((-1), (0))]⟩)) (by simp [results, Try.results71, go_sem, lkV, linkV, e1, e3, e5, e6]) rfl ⟨(v1, ⟨A5, xs.length + 1, c5, xs ++ [((-1), (0))]⟩), rfl, (((own5.far (p := ⟨w1.heap.size, 1, none⟩) (by simp) _).far (p := ⟨w.heap.size, 0, none⟩) (by simp; omega) _).far (p := ⟨w.heap.size, 1, none⟩) (by simp; omega) _).okv encS |>.mono (by omega), by simp only []; omega, Stp.set _ (by assumption) (by assumption) (Stp.set _ (by assumption) (by assumption) (Stp.set _ (by assumption) (by assumption) (hS6.le (by omega))))⟩
          · have own2 := own1.alloc (.cells #[.int .i64 (99), .int .i64 (256)] 59)
            have src := Sl.of_blk (xs := [(((99), (256)) : Int × Int)]) (Blk.new w8 59 #[.int .i64 (99), .int .i64 (256)]) encS (by simp)
            have hS2 := hS.alloc (.cells #[.int .i64 (99), .int .i64 (256)] 59)
            have hz2 := B2.lt
            skip
            have cB1_0 := B1.c0; have cB1_1 := B1.c1; have fB1 := B1.frozen; have cB2_0 := B2.c0; have cB2_1 := B2.c1; have fB2 := B2.frozen
            go_wp2_with (at_builtin; (refine app_own rfl _ _ appPkt rfl encS (w1.heap.size + 1) _ xs rfl own2 _ 1 1 [(((99), (256)) : Int × Int)] rfl (fun e => by cases e) src (by omega) (by simp; omega) ?_); (intro v' w9 own5 hg5; have B1a := (B1.alloc (.cells #[.int .i64 (99), .int .i64 (256)] 59)).app own2 hg5 (by omega); have B2a := (B2.alloc (.cells #[.int .i64 (99), .int .i64 (256)] 59)).app own2 hg5 (by omega); have hS6 := hS2.app own2 hg5 (by omega) (by omega); have e1 := B1a.c0; have e2 := B1a.frozen; have e3 := B2a.c0; have e4 := B2a.frozen; have e5 := B1a.c1; have e6 := B2a.c1; obtain ⟨A5, c5, rfl, _, _, _⟩ := own5.sl encS; rw [List.length_append, List.length_singleton] at own5))
            exact bodyPost_ret (v := lkV (v1, ⟨A5, _, c5, xs ++ [((99), (256))]⟩)) (by simp [results, Try.results71, go_sem, lkV, linkV, e1, e3, e5, e6]) rfl ⟨(v1, ⟨A5, xs.length + 1, c5, xs ++ [((99), (256))]⟩), rfl, (((own5.far (p := ⟨w1.heap.size, 1, none⟩) (by simp) _).far (p := ⟨w.heap.size, 0, none⟩) (by simp; omega) _).far (p := ⟨w.heap.size, 1, none⟩) (by simp; omega) _).okv encS |>.mono (by omega), by simp only []; omega, Stp.set _ (by assumption) (by assumption) (Stp.set _ (by assumption) (by assumption) (Stp.set _ (by assumption) (by assumption) (hS6.le (by omega))))⟩
          · have hz2 := B2.lt
            have hz5 := hS.grown.size
            skip
            have cB1_0 := B1.c0; have cB1_1 := B1.c1; have fB1 := B1.frozen; have cB2_0 := B2.c0; have cB2_1 := B2.c1; have fB2 := B2.frozen
            go_wp2_with (refine make_own rfl _ _ zeroPkt rfl encS (w1.heap.size + 1) _ _ 21 rfl rfl (by omega) (by omega) (by omega) (by omega) ?_; intro w9 own5 hg5; have hb6 := below_of_grown hg5; have B1a := B1.below hb6; have B2a := B2.below hb6; have hS6 := hS.none hg5; have e1 := B1a.c0; have e2 := B1a.frozen; have e3 := B2a.c0; have e4 := B2a.frozen; have e5 := B1a.c1; have e6 := B2a.c1)
            exact bodyPost_ret (v := lkV (v1, ⟨some ⟨w8.heap.size, 0, none⟩, _, 21, List.replicate 21 (0, 0)⟩)) (by simp [results, Try.results71, go_sem, lkV, linkV, e1, e3, e5, e6]) rfl ⟨(v1, ⟨some ⟨w8.heap.size, 0, none⟩, 21, 21, List.replicate 21 (0, 0)⟩), rfl, (((own5.far (p := ⟨w1.heap.size, 1, none⟩) (by simp) _).far (p := ⟨w.heap.size, 0, none⟩) (by simp; omega) _).far (p := ⟨w.heap.size, 1, none⟩) (by simp; omega) _).okv encS |>.mono (by omega), by simp only []; omega, Stp.set _ (by assumption) (by assumption) (Stp.set _ (by assumption) (by assumption) (Stp.set _ (by assumption) (by assumption) (hS6.le (by omega))))⟩
      · go_wp2
        go_loopg [] 20 (fun gg wr => ∃ (xs : List (Int × Int)) (v : Value), 20 - xs.length ≤ gg ∧ xs.length ≤ 20 ∧ Aside (LK v1 xs at') ∧ Aside (Blk wr w.heap.size 55 #[.int .i64 0, .slice none 0 0]) ∧ Aside (Blk wr w1.heap.size 55 #[.int .i64 v1, v]) ∧ Aside (Own wr (w1.heap.size + 1) 59 2 eS v xs) ∧ Aside (Stp r 88 w (b + 30) wr))
        case atStart => exact ⟨xs, v, by omega, by omega, (show Aside _ from LL.out), (show Aside _ from B1), (show Aside _ from B2), (show Aside _ from own1), (show Aside _ from hS.le (by omega))⟩
        case round =>
          clear hS B1 B2 own1 hl LL
          obtain ⟨xs, v, hg2, hl, LL, BB1, BB2, OW, SS⟩ := hrel
          have hS := SS.out
          have own1 := OW.out
          have B1 := BB1.out
          have B2 := BB2.out
          clear SS OW BB1 BB2
          by_cases hlt : xs.length < 20
          · have HS := Lib.hid (fun (v : Int) (hv : 0 ≤ v ∧ v ≤ 255) => LL.out.send (t := at') (by omega) (by omega) hv (by omega))
            obtain ⟨A9, c9, rfl, -, -, -⟩ := own1.sl encS
            have hLS := specSendLK (t := at') (v := 1) LL.out (Int.le_refl _) (by omega) (by omega) hlt own1
            have hltz : (xs.length : Int) < 20 := by omega
            skip
            have cB1_0 := B1.c0; have cB1_1 := B1.c1; have fB1 := B1.frozen; have cB2_0 := B2.c0; have cB2_1 := B2.c1; have fB2 := B2.frozen
            go_wp2_with fail
            refine hLS.mono ?_
            rintro e w6 ⟨⟨A6, c6⟩, rfl, own6, hb6⟩
            simp only [snV] at own6 ⊢
            replace own6 := own6.low (show w1.heap.size + 1 ≤ _ from B2.lt)
            clear cB1_0 cB1_1 fB1 cB2_0 cB2_1 fB2
            replace B1 := B1.below hb6
            replace B2 := B2.below hb6
            replace hS := hS.none (grown_of_below hb6 none)
            have cB1_0 := B1.c0; have cB1_1 := B1.c1; have fB1 := B1.frozen; have cB2_0 := B2.c0; have cB2_1 := B2.c1; have fB2 := B2.frozen
            go_wp2
            go_roundg (20 - (xs.length + 1))
            case measure => omega
            case rel => exact ⟨xs ++ [(at' + v1, 1)], _, (by first | (simp; done) | (simp; omega)), (by first | (simp; done) | (simp; omega)), (show Aside _ from (HS.out 1 (by omega)).2), (show Aside _ from (B1.far (p := ⟨w1.heap.size, 0, none⟩) (by assumption) _).far (p := ⟨w1.heap.size, 1, none⟩) (by assumption) _), (show Aside _ from (B2.set_ 0 _).set_ 1 _), (show Aside _ from (own6.far (p := ⟨w1.heap.size, 0, none⟩) (by simp) _).far (p := ⟨w1.heap.size, 1, none⟩) (by simp) _), (show Aside _ from (Stp.set _ (by assumption) (by assumption) (Stp.set _ (by assumption) (by assumption) hS)))⟩
          · have hltz : ¬ (xs.length : Int) < 20 := by omega
            obtain ⟨A9, c9, rfl, hA9, -, -⟩ := own1.sl encS
            skip
            have cB1_0 := B1.c0; have cB1_1 := B1.c1; have fB1 := B1.frozen; have cB2_0 := B2.c0; have cB2_1 := B2.c1; have fB2 := B2.frozen
            skip
            skip
            go_wp2_with fail; refine (odd_any _ (k) _ _ (by repeat (first | exact hS.rd | apply Rd.drew | apply Rd.alloc | (apply Rd.setCell; rotate_left; assumption))) (by omega) (by omega)).mono ?_; rintro e w7 ⟨q2, rfl, hs⟩; replace own1 := Own.stpOf own1 hs (by repeat (first | exact own1 | apply Own.alloc | apply Own.drew)) (by assumption); replace B1 := Blk.stpOf B1 hs (by repeat (first | exact B1 | apply Blk.alloc | apply Blk.drew | (apply Blk.far; rotate_left; (first | assumption | exact Ne.symm (by assumption))) | apply Blk.set_)) (by assumption); replace B2 := Blk.stpOf B2 hs (by repeat (first | exact B2 | apply Blk.alloc | apply Blk.drew | (apply Blk.far; rotate_left; (first | assumption | exact Ne.symm (by assumption))) | apply Blk.set_)) (by assumption); replace hS := Stp.trans (by repeat (first | exact hS | apply Stp.drew | apply Stp.alloc | (apply Stp.set; assumption; assumption))) hs; clear hs
            cases q2
            · have cB1_0 := B1.c0; have cB1_1 := B1.c1; have fB1 := B1.frozen; have cB2_0 := B2.c0; have cB2_1 := B2.c1; have fB2 := B2.frozen
              go_wp2
              exact bodyPost_ret (v := lkV (v1, ⟨A9, xs.length, c9, xs⟩)) (by simp [results, Try.results71, go_sem, lkV, linkV, cB1_0, cB1_1, cB2_0, cB2_1]) rfl ⟨(v1, ⟨A9, xs.length, c9, xs⟩), rfl, ((own1.far (p := ⟨w.heap.size, 0, none⟩) (by simp; omega) _).far (p := ⟨w.heap.size, 1, none⟩) (by simp; omega) _).okv encS |>.mono (by omega), by simp only []; omega, (by repeat (first | exact hS.le (by omega) | apply Stp.drew | apply Stp.alloc | (apply Stp.set; assumption; assumption)))⟩
            · go_wp2_with fail; refine (pick_any _ (4) _ _ (by repeat (first | exact hS.rd | apply Rd.drew | apply Rd.alloc | (apply Rd.setCell; rotate_left; assumption))) (by omega) (by omega)).mono ?_; rintro e w8 ⟨v5, rfl, hv50, hv51, hs⟩; replace own1 := Own.stpOf own1 hs (by repeat (first | exact own1 | apply Own.alloc | apply Own.drew)) (by assumption); replace B1 := Blk.stpOf B1 hs (by repeat (first | exact B1 | apply Blk.alloc | apply Blk.drew | (apply Blk.far; rotate_left; (first | assumption | exact Ne.symm (by assumption))) | apply Blk.set_)) (by assumption); replace B2 := Blk.stpOf B2 hs (by repeat (first | exact B2 | apply Blk.alloc | apply Blk.drew | (apply Blk.far; rotate_left; (first | assumption | exact Ne.symm (by assumption))) | apply Blk.set_)) (by assumption); replace hS := Stp.trans (by repeat (first | exact hS | apply Stp.drew | apply Stp.alloc | (apply Stp.set; assumption; assumption))) hs; clear hs
              rcases (show v5 = 0 ∨ v5 = 1 ∨ v5 = 2 ∨ v5 = 3 by omega) with rfl | rfl | rfl | rfl
              · replace own1 := own1.alloc (.cells #[.int .i64 (-1), .int .i64 51] 3)
                have B3 := Blk.new w8 3 #[.int .i64 (-1), .int .i64 51]; have lB3 := hS.rd.lt; have nB3 := Nat.ne_of_gt lB3; have sB3 := hS.grown.size; have dB1B3 := Nat.ne_of_lt B1.lt; have dB2B3 := Nat.ne_of_lt B2.lt
                go_wp2_with fail; refine (pick_any _ (2) _ _ (by repeat (first | exact hS.rd | apply Rd.drew | apply Rd.alloc | (apply Rd.setCell; rotate_left; assumption))) (by omega) (by omega)).mono ?_; rintro e w9 ⟨v6, rfl, hv60, hv61, hs⟩; replace own1 := Own.stpOf own1 hs (by repeat (first | exact own1 | apply Own.alloc | apply Own.drew)) (by assumption); replace B1 := Blk.stpOf B1 hs (by repeat (first | exact B1 | apply Blk.alloc | apply Blk.drew | (apply Blk.far; rotate_left; (first | assumption | exact Ne.symm (by assumption))) | apply Blk.set_)) (by assumption); replace B2 := Blk.stpOf B2 hs (by repeat (first | exact B2 | apply Blk.alloc | apply Blk.drew | (apply Blk.far; rotate_left; (first | assumption | exact Ne.symm (by assumption))) | apply Blk.set_)) (by assumption); replace B3 := Blk.stpOf B3 hs (by repeat (first | exact B3 | apply Blk.alloc | apply Blk.drew | (apply Blk.far; rotate_left; (first | assumption | exact Ne.symm (by assumption))) | apply Blk.set_)) (by assumption); replace hS := Stp.trans (by repeat (first | exact hS | apply Stp.drew | apply Stp.alloc | (apply Stp.set; assumption; assumption))) hs; clear hs
                have g3 := (B3.cell v6.toNat).trans (litq2 hv60 hv61 _ _)
                skip
                have cB1_0 := B1.c0; have cB1_1 := B1.c1; have fB1 := B1.frozen; have cB2_0 := B2.c0; have cB2_1 := B2.c1; have fB2 := B2.frozen
                go_wp2
                exact bodyPost_ret (v := lkV (sel [-1, 51] v6, ⟨A9, xs.length, c9, xs⟩)) (by simp [results, Try.results71, go_sem, lkV, linkV, cB1_0, cB1_1, cB2_0, cB2_1]) rfl ⟨(sel [-1, 51] v6, ⟨A9, xs.length, c9, xs⟩), rfl, (((own1.far (p := ⟨w1.heap.size, 0, none⟩) (by simp) _).far (p := ⟨w.heap.size, 0, none⟩) (by simp; omega) _).far (p := ⟨w.heap.size, 1, none⟩) (by simp; omega) _).okv encS |>.mono (by omega), by simp only []; omega, (by repeat (first | exact hS.le (by omega) | apply Stp.drew | apply Stp.alloc | (apply Stp.set; assumption; assumption)))⟩
              · have own2 := own1.alloc (.cells #[.int .i64 (-1), .int .i64 (0)] 59)
                have src := Sl.of_blk (xs := [(((-1), (0)) : Int × Int)]) (Blk.new w8 59 #[.int .i64 (-1), .int .i64 (0)]) encS (by simp)
                have hS2 := hS.alloc (.cells #[.int .i64 (-1), .int .i64 (0)] 59)
                have hz2 := B2.lt
                skip
                have cB1_0 := B1.c0; have cB1_1 := B1.c1; have fB1 := B1.frozen; have cB2_0 := B2.c0; have cB2_1 := B2.c1; have fB2 := B2.frozen
                go_wp2_with (at_builtin; (refine app_own rfl _ _ appPkt rfl encS (w1.heap.size + 1) _ xs rfl own2 _ 1 1 [(((-1), (0)) : Int × Int)] rfl (fun e => by cases e) src (by omega) (by simp; omega) ?_); (intro v' w9 own5 hg5; have B1a := (B1.alloc (.cells #[.int .i64 (-1), .int .i64 (0)] 59)).app own2 hg5 (by omega); have B2a := (B2.alloc (.cells #[.int .i64 (-1), .int .i64 (0)] 59)).app own2 hg5 (by omega); have hS6 := hS2.app own2 hg5 (by omega) (by omega); have e1 := B1a.c0; have e2 := B1a.frozen; have e3 := B2a.c0; have e4 := B2a.frozen; have e5 := B1a.c1; have e6 := B2a.c1; obtain ⟨A5, c5, rfl, _, _, _⟩ := own5.sl encS; rw [List.length_append, List.length_singleton] at own5))
                exact bodyPost_ret (v := lkV (v1, ⟨A5, _, c5, xs ++ [((-1), (0))]⟩)) (by simp [results, Try.results71, go_sem, lkV, linkV, e1, e3, e5, e6]) rfl ⟨(v1, ⟨A5, xs.length + 1, c5, xs ++ [((-1), (0))]⟩), rfl, (((own5.far (p := ⟨w1.heap.size, 1, none⟩) (by simp) _).far (p := ⟨w.heap.size, 0, none⟩) (by simp; omega) _).far (p := ⟨w.heap.size, 1, none⟩) (by simp; omega) _).okv encS |>.mono (by omega), by simp only []; omega, Stp.set _ (by assumption) (by assumption) (Stp.set _ (by assumption) (by assumption) (Stp.set _ (by assumption) (by assumption) (hS6.le (by omega))))⟩
              · have own2 := own1.alloc (.cells #[.int .i64 (99), .int .i64 (256)] 59)
                have src := Sl.of_blk (xs := [(((99), (256)) : Int × Int)]) (Blk.new w8 59 #[.int .i64 (99), .int .i64 (256)]) encS (by simp)
                have hS2 := hS.alloc (.cells #[.int .i64 (99), .int .i64 (256)] 59)
                have hz2 := B2.lt
                skip
                have cB1_0 := B1.c0; have cB1_1 := B1.c1; have fB1 := B1.frozen; have cB2_0 := B2.c0; have cB2_1 := B2.c1; have fB2 := B2.frozen
                go_wp2_with (at_builtin; (refine app_own rfl _ _ appPkt rfl encS (w1.heap.size + 1) _ xs rfl own2 _ 1 1 [(((99), (256)) : Int × Int)] rfl (fun e => by cases e) src (by omega) (by simp; omega) ?_); (intro v' w9 own5 hg5; have B1a := (B1.alloc (.cells #[.int .i64 (99), .int .i64 (256)] 59)).app own2 hg5 (by omega); have B2a := (B2.alloc (.cells #[.int .i64 (99), .int .i64 (256)] 59)).app own2 hg5 (by omega); have hS6 := hS2.app own2 hg5 (by omega) (by omega); have e1 := B1a.c0; have e2 := B1a.frozen; have e3 := B2a.c0; have e4 := B2a.frozen; have e5 := B1a.c1; have e6 := B2a.c1; obtain ⟨A5, c5, rfl, _, _, _⟩ := own5.sl encS; rw [List.length_append, List.length_singleton] at own5))
                exact bodyPost_ret (v := lkV (v1, ⟨A5, _, c5, xs ++ [((99), (256))]⟩)) (by simp [results, Try.results71, go_sem, lkV, linkV, e1, e3, e5, e6]) rfl ⟨(v1, ⟨A5, xs.length + 1, c5, xs ++ [((99), (256))]⟩), rfl, (((own5.far (p := ⟨w1.heap.size, 1, none⟩) (by simp) _).far (p := ⟨w.heap.size, 0, none⟩) (by simp; omega) _).far (p := ⟨w.heap.size, 1, none⟩) (by simp; omega) _).okv encS |>.mono (by omega), by simp only []; omega, Stp.set _ (by assumption) (by assumption) (Stp.set _ (by assumption) (by assumption) (Stp.set _ (by assumption) (by assumption) (hS6.le (by omega))))⟩
              · have hz2 := B2.lt
                have hz5 := hS.grown.size
                skip
                have cB1_0 := B1.c0; have cB1_1 := B1.c1; have fB1 := B1.frozen; have cB2_0 := B2.c0; have cB2_1 := B2.c1; have fB2 := B2.frozen
                go_wp2_with (refine make_own rfl _ _ zeroPkt rfl encS (w1.heap.size + 1) _ _ 21 rfl rfl (by omega) (by omega) (by omega) (by omega) ?_; intro w9 own5 hg5; have hb6 := below_of_grown hg5; have B1a := B1.below hb6; have B2a := B2.below hb6; have hS6 := hS.none hg5; have e1 := B1a.c0; have e2 := B1a.frozen; have e3 := B2a.c0; have e4 := B2a.frozen; have e5 := B1a.c1; have e6 := B2a.c1)
                exact bodyPost_ret (v := lkV (v1, ⟨some ⟨w8.heap.size, 0, none⟩, _, 21, List.replicate 21 (0, 0)⟩)) (by simp [results, Try.results71, go_sem, lkV, linkV, e1, e3, e5, e6]) rfl ⟨(v1, ⟨some ⟨w8.heap.size, 0, none⟩, 21, 21, List.replicate 21 (0, 0)⟩), rfl, (((own5.far (p := ⟨w1.heap.size, 1, none⟩) (by simp) _).far (p := ⟨w.heap.size, 0, none⟩) (by simp; omega) _).far (p := ⟨w.heap.size, 1, none⟩) (by simp; omega) _).okv encS |>.mono (by omega), by simp only []; omega, Stp.set _ (by assumption) (by assumption) (Stp.set _ (by assumption) (by assumption) (Stp.set _ (by assumption) (by assumption) (hS6.le (by omega))))⟩

theorem drawLinkValid_any (A : Option Addr) (n c : Nat) (zs : List Int) (w : World) (h : Code w A n c zs) :
    Calls Try.prog 42 #[.slice A n c] w (Post lkV fun x w' => SV.ok w' w.heap.size 2 eS x.2 ∧ x.2.n ≤ 30 ∧ Below w.heap.size w w') := by
  obtain ⟨r, hr, hrw⟩ : ∃ r, w.heap.size + 1 = r ∧ w.heap.size < r := ⟨_, rfl, Nat.lt_succ_self _⟩
  have B1 := Blk.new w 55 #[.int .i64 0, .slice none 0 0]
  have hopen := open_at r A n c zs (w.alloc (.cells #[.int .i64 0, .slice none 0 0] 55)) (h.below ((Below.refl _ _).alloc (Nat.le_refl _) _)) (by simpa using hr)
  clear h
  go_enter Try.func42, Try.ntmps42
  go_wp2_with fail
  refine hopen.mono ?_
  rintro e w0 ⟨rfl, hrd, hb, hsz⟩
  clear hopen
  replace B1 := B1.below (hb.mono (by simp; omega))
  clear hr
  replace hb := ((Below.refl _ _).alloc (Nat.le_refl _) _).trans (hb.mono (Nat.le_of_lt hrw))
  have nB1 := Nat.ne_of_lt hrw
  replace hrw := Nat.le_of_lt hrw
  have hS := Stp.refl hrd
  have hr0 := hrd.lt
  clear hrd
  have hz0 := hb.size
  go_wp2_with fail; refine (l20Link_any r 2 _ _ (by repeat (first | exact hS.rd | apply Rd.drew | apply Rd.alloc | (apply Rd.setCell; rotate_left; assumption))) (by omega) (by omega)).mono ?_; rintro e w1 ⟨x, rfl, hs1, hs2, hs⟩; replace B1 := Blk.stpOf B1 hs (by repeat (first | exact B1 | apply Blk.alloc | apply Blk.drew | (apply Blk.far; rotate_left; (first | assumption | exact Ne.symm (by assumption))) | apply Blk.set_)) (by assumption); replace hS := Stp.trans (by repeat (first | exact hS | apply Stp.drew | apply Stp.alloc | (apply Stp.set; assumption; assumption))) hs; clear hs
  have hBel := hS.belowT (a := w) (B := w.heap.size) hb (by assumption) hb.size
  obtain ⟨d, ⟨A1, n1, c1, xs⟩⟩ := x
  simp only [lkV, linkV] at hs1 hs2 ⊢
  have hok : SV.ok ((w1.setCell ⟨w.heap.size, 0, none⟩ (.int .i64 d)).setCell ⟨w.heap.size, 1, none⟩ (.slice A1 n1 c1)) w.heap.size 2 eS ⟨A1, n1, c1, xs⟩ := by
    have hne : ∀ b o, A1 = some ⟨b, o, none⟩ → b ≠ w.heap.size := fun b o e => by have := hs1.fresh b o e; omega
    refine ⟨hs1.sl.keep (by simp [World.setCell]) fun b o e => ?_, fun b o e => by have := hs1.fresh b o e; omega, hs1.nil, hs1.spot⟩
    rw [Below.heap_setCell _ _ _ _ (hne b o e), Below.heap_setCell _ _ _ _ (hne b o e)]
  have cB1_0 := B1.c0; have cB1_1 := B1.c1; have fB1 := B1.frozen
  go_wp2
  exact bodyPost_ret (v := lkV (d, ⟨A1, n1, c1, xs⟩)) (by simp [results, Try.results42, go_sem, lkV, linkV, cB1_0, cB1_1]) rfl ⟨_, rfl, hok, hs2, (by repeat (first | exact Below.refl _ _ | assumption | apply alo | (apply Below.setCell; rotate_left; (first | assumption | exact Nat.le_refl _ | (simp only []; omega))) | apply Below.drew | apply belowDrewN | (refine thn ?_ (by assumption))))⟩
theorem drawLinkNext_any (A : Option Addr) (n c : Nat) (zs : List Int) (w : World) (h : Code w A n c zs) :
    Calls Try.prog 45 #[.slice A n c] w (Post lkV fun x w' => SV.ok w' w.heap.size 2 eS x.2 ∧ x.2.n ≤ 30 ∧ Below w.heap.size w w') := by
  obtain ⟨r, hr, hrw⟩ : ∃ r, w.heap.size + 1 = r ∧ w.heap.size < r := ⟨_, rfl, Nat.lt_succ_self _⟩
  have B1 := Blk.new w 55 #[.int .i64 0, .slice none 0 0]
  have hopen := open_at r A n c zs (w.alloc (.cells #[.int .i64 0, .slice none 0 0] 55)) (h.below ((Below.refl _ _).alloc (Nat.le_refl _) _)) (by simpa using hr)
  clear h
  go_enter Try.func45, Try.ntmps45
  go_wp2_with fail
  refine hopen.mono ?_
  rintro e w0 ⟨rfl, hrd, hb, hsz⟩
  clear hopen
  replace B1 := B1.below (hb.mono (by simp; omega))
  clear hr
  replace hb := ((Below.refl _ _).alloc (Nat.le_refl _) _).trans (hb.mono (Nat.le_of_lt hrw))
  have nB1 := Nat.ne_of_lt hrw
  replace hrw := Nat.le_of_lt hrw
  have hS := Stp.refl hrd
  have hr0 := hrd.lt
  clear hrd
  have hz0 := hb.size
  go_wp2_with fail; refine (l20Link_any r 9 _ _ (by repeat (first | exact hS.rd | apply Rd.drew | apply Rd.alloc | (apply Rd.setCell; rotate_left; assumption))) (by omega) (by omega)).mono ?_; rintro e w1 ⟨x, rfl, hs1, hs2, hs⟩; replace B1 := Blk.stpOf B1 hs (by repeat (first | exact B1 | apply Blk.alloc | apply Blk.drew | (apply Blk.far; rotate_left; (first | assumption | exact Ne.symm (by assumption))) | apply Blk.set_)) (by assumption); replace hS := Stp.trans (by repeat (first | exact hS | apply Stp.drew | apply Stp.alloc | (apply Stp.set; assumption; assumption))) hs; clear hs
  have hBel := hS.belowT (a := w) (B := w.heap.size) hb (by assumption) hb.size
  obtain ⟨d, ⟨A1, n1, c1, xs⟩⟩ := x
  simp only [lkV, linkV] at hs1 hs2 ⊢
  have hok : SV.ok ((w1.setCell ⟨w.heap.size, 0, none⟩ (.int .i64 d)).setCell ⟨w.heap.size, 1, none⟩ (.slice A1 n1 c1)) w.heap.size 2 eS ⟨A1, n1, c1, xs⟩ := by
    have hne : ∀ b o, A1 = some ⟨b, o, none⟩ → b ≠ w.heap.size := fun b o e => by have := hs1.fresh b o e; omega
    refine ⟨hs1.sl.keep (by simp [World.setCell]) fun b o e => ?_, fun b o e => by have := hs1.fresh b o e; omega, hs1.nil, hs1.spot⟩
    rw [Below.heap_setCell _ _ _ _ (hne b o e), Below.heap_setCell _ _ _ _ (hne b o e)]
  have cB1_0 := B1.c0; have cB1_1 := B1.c1; have fB1 := B1.frozen
  go_wp2
  exact bodyPost_ret (v := lkV (d, ⟨A1, n1, c1, xs⟩)) (by simp [results, Try.results45, go_sem, lkV, linkV, cB1_0, cB1_1]) rfl ⟨_, rfl, hok, hs2, (by repeat (first | exact Below.refl _ _ | assumption | apply alo | (apply Below.setCell; rotate_left; (first | assumption | exact Nat.le_refl _ | (simp only []; omega))) | apply Below.drew | apply belowDrewN | (refine thn ?_ (by assumption))))⟩
end Go.Proofs.Ythellpcohdbbfaa
