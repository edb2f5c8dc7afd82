/- What a channel holds: the draw. -/
import Derived.Test.YtpiijdfnhkmkaaaPick
import Derived.Test.YtpiijdfnhkmkaaaAppT
import Derived.Test.YtpiijdfnhkmkaaaPre
namespace Go.Proofs.Ytpiijdfnhkmkaaa
/-- What the first operations of a round leave: the row's value vv, a number, a list of it. -/
def tyHold (r q : Nat) (vv : Value) : Nat → Value → World → Prop
  | 0, v, _ => v = .pointer (some ⟨q, 0, none⟩)
  | 1, v, _ => v = vv
  | 2, v, _ => v = .pointer (some ⟨r, 0, none⟩)
  | 3, v, _ => ∃ x : Int, v = .int .i64 x
  | _, v, w => ∃ (g : Nat) (x : Int), v = .slice (some ⟨g, 0, none⟩) 1 1 ∧ r < g ∧ Blk w g 3 #[.int .i64 x]
theorem tyHold_stable {r q : Nat} {vv : Value} {i : Nat} {v : Value} {w w' : World} (h : tyHold r q vv i v w) (hg : w.grownBy w' (some r)) : tyHold r q vv i v w' := by
  match i, h with
  | 0, h => exact h
  | 1, h => exact h
  | 2, h => exact h
  | 3, h => exact h
  | n + 4, ⟨g, x, e, hr, hb⟩ => exact ⟨g, x, e, hr, (hg.block g hb.lt (fun e => by injection e; omega)).trans hb⟩
open Go.RowKit

def holdV (x : SV Int × Int × Int) : Value := .tuple #[.agg #[x.1.v], .int .i64 x.2.1, .int .i64 x.2.2]
set_option maxRecDepth 100000 in
set_option maxHeartbeats 2000000 in
theorem l20Hold_any (r : Nat) (k b : Int) (w : World) (h : Rd w r 87 b) (hb : b ≤ 999998000) (hk : -1000 ≤ k) :
    Calls Try.prog 64 #[.pointer (some ⟨r, 0, none⟩), .int .i64 k] w (Post holdV fun x w' => SV.ok w' w.heap.size 1 eI x.1 ∧ x.1.n ≤ 20 ∧ (0 ≤ x.2.1 ∧ x.2.1 ≤ 4) ∧ (0 ≤ x.2.2 ∧ x.2.2 ≤ 5) ∧ Stp r 87 w (b + 100) w') := by
  have hS := Stp.refl h
  have hr0 := h.lt
  skip
  have B1 := Blk.new w 52 #[.slice none 0 0]; have lB1 := hS.rd.lt; have nB1 := Nat.ne_of_gt lB1; have sB1 := hS.grown.size
  clear h
  go_enter Try.func64, Try.ntmps64
  go_wp2_with fail; refine (pick_any _ (3) _ _ (by repeat (first | exact hS.rd | apply Rd.drew | apply Rd.alloc | (apply Rd.setCell; rotate_left; assumption))) (by omega) (by omega)).mono ?_; rintro e w1 ⟨v1, rfl, hv10, hv11, hs⟩; replace B1 := Blk.stpOf B1 hs (by repeat (first | exact B1 | apply Blk.alloc | apply Blk.drew | (apply Blk.far; rotate_left; (first | assumption | exact Ne.symm (by assumption))) | apply Blk.set_)) (by assumption); replace hS := Stp.trans (by repeat (first | exact hS | apply Stp.drew | apply Stp.alloc | (apply Stp.set; assumption; assumption))) hs; clear hs
  go_wp2_with fail; refine (pick_any _ (4) _ _ (by repeat (first | exact hS.rd | apply Rd.drew | apply Rd.alloc | (apply Rd.setCell; rotate_left; assumption))) (by omega) (by omega)).mono ?_; rintro e w2 ⟨v2, rfl, hv20, hv21, hs⟩; replace B1 := Blk.stpOf B1 hs (by repeat (first | exact B1 | apply Blk.alloc | apply Blk.drew | (apply Blk.far; rotate_left; (first | assumption | exact Ne.symm (by assumption))) | apply Blk.set_)) (by assumption); replace hS := Stp.trans (by repeat (first | exact hS | apply Stp.drew | apply Stp.alloc | (apply Stp.set; assumption; assumption))) hs; clear hs
  have B2 := Blk.new w2 52 #[.slice none 0 0]; have lB2 := hS.rd.lt; have nB2 := Nat.ne_of_gt lB2; have sB2 := hS.grown.size; have dB1B2 := Nat.ne_of_lt B1.lt
  have hB2l := B2.lt
  by_cases hv1 : v1 = 0
  · subst hv1
    skip
    skip
    have lB3 : r < w2.heap.size + 1 := by omega
    go_wp2_with fail; refine (pick_any _ (_) _ _ (by repeat (first | exact hS.rd | apply Rd.drew | apply Rd.alloc | (apply Rd.setCell; rotate_left; assumption))) (by omega) (by omega)).mono ?_; rintro e w3 ⟨v3, rfl, hv30, hv31, hs⟩; replace B1 := Blk.stpOf B1 hs (by repeat (first | exact B1 | apply Blk.alloc | apply Blk.drew | (apply Blk.far; rotate_left; (first | assumption | exact Ne.symm (by assumption))) | apply Blk.set_)) (by assumption); replace B2 := Blk.stpOf B2 hs (by repeat (first | exact B2 | apply Blk.alloc | apply Blk.drew | (apply Blk.far; rotate_left; (first | assumption | exact Ne.symm (by assumption))) | apply Blk.set_)) (by assumption); replace hS := Stp.trans (by repeat (first | exact hS | apply Stp.drew | apply Stp.alloc | (apply Stp.set; assumption; assumption))) hs; clear hs
    go_wp2
    go_loopg [10] 20 (fun gg s10 wr => ∃ (kk : Int) (l : List Int) (v : Value), 0 ≤ kk ∧ kk ≤ gg ∧ gg ≤ 20 ∧ s10 = .int .i64 kk ∧ l.length + kk ≤ 5 ∧ Aside (Blk wr w.heap.size 52 #[.slice none 0 0]) ∧ Aside (Blk wr w2.heap.size 52 #[v]) ∧ Aside (Own wr (w2.heap.size + 1) 3 1 eI v l) ∧ Aside (Stp r 87 w (b + 4 + 10 * l.length) wr))
    case atStart => exact ⟨v3, [], _, by omega, by omega, by omega, rfl, by simp; omega, B1, B2, Own.nil, hS.le (by simp; omega)⟩
    case round =>
      obtain ⟨kk, l, v, hk0, hk1, hg, rfl, hl, BB1, BB2, OW, SS⟩ := hrel
      clear hS B1 B2
      have hS := SS.out
      have own1 := OW.out
      have B1 := BB1.out
      have B2 := BB2.out
      clear SS OW BB1 BB2
      have d1 := dB1B2
      have l1 := B1.lt
      have l2 := B2.lt
      by_cases hlt : 0 < kk
      · have c2 := B2.c0
        have f2 := B2.frozen
        go_wp2_with fail
        refine region_prefix (by kernel_rfl) (fun i v' w => tyHold r w2.heap.size v i v' w) r 87 5 _ wr wr (b + 4 + 10 * l.length) (by kernel_rfl) (by kernel_rfl) (fun i v' w w' => tyHold_stable) (Stp.refl hS.rd) ?_ ?_
        · intro i o him ho a w4 b' hb' hS1 hfr hdep
          have hs1 := Stp.refl hS1.rd
          have hbb : b' ≤ 1000000000 := by omega
          have B2' := Blk.stp hS1 B2 (by assumption)
          clear hS1 hS B1 B2 own1
          match i, ho, him with
          | 0, ho, _ =>
            injection ho with ho
            subst ho
            have h3 := hfr.2.2 9 (drawFr_spec (by kernel_rfl))
            clear hdep hfr hb'
            simp only [Array.getD_eq_getD_getElem?] at h3
            unfold Oper.wp
            go_simp
            exact Leaves.val rfl (hs1.le (by omega))
          | 1, ho, _ =>
            injection ho with ho
            subst ho
            have h6 := hdep ⟨0, .data⟩ (by simp) (by kernel_rfl) _ 28 rfl rfl
            have c2' := B2'.c0
            clear hdep hfr hb'
            replace h6 : a.tmps.getD 28 undef = _ := h6
            unfold Oper.wp
            go_simp
            exact Leaves.val rfl (hs1.le (by omega))
          | 2, ho, _ =>
            injection ho with ho
            subst ho
            have h3 := hfr.2.2 0 (drawFr_spec (by kernel_rfl))
            clear hdep hfr hb'
            simp only [Array.getD_eq_getD_getElem?] at h3
            unfold Oper.wp
            go_simp
            exact Leaves.val rfl (hs1.le (by omega))
          | 3, ho, _ =>
            injection ho with ho
            subst ho
            have h6 := hdep ⟨2, .data⟩ (by simp) (by kernel_rfl) _ 30 rfl rfl
            clear hdep hfr hb'
            replace h6 : a.tmps.getD 30 undef = _ := h6
            unfold Oper.wp
            go_simp
            refine (pick_any r 256 b' w4 hs1.rd hbb (by omega)).mono ?_
            rintro e w5 ⟨v, rfl, hv0, hv1, hs⟩
            exact Leaves.val ⟨v, rfl⟩ hs
          | 4, ho, _ =>
            injection ho with ho
            subst ho
            have h6 := hdep ⟨3, .data⟩ (by simp) (by kernel_rfl) _ 31 rfl rfl
            clear hdep hfr hb'
            obtain ⟨x, h6⟩ := h6
            simp only [Array.getD_eq_getD_getElem?] at h6
            unfold Oper.wp
            go_simp
            exact Leaves.val ⟨w4.heap.size, x, rfl, hs1.rd.lt, Blk.new w4 _ _⟩ ((hs1.alloc _).le (by omega))
          | n + 5, _, h => omega
        · intro V w4 hV hS4
          have hV0 := hV 0 _ 28 (by decide) rfl rfl
          have hV1 := hV 1 _ 29 (by decide) rfl rfl
          have hV2 := hV 2 _ 30 (by decide) rfl rfl
          obtain ⟨x3, hV3⟩ := hV 3 _ 31 (by decide) rfl rfl
          obtain ⟨g4, x4, hV4, hg4, B4⟩ := hV 4 _ 32 (by decide) rfl rfl
          clear hV
          replace hV0 : V 0 = _ := hV0
          replace hV1 : V 1 = _ := hV1
          replace hV2 : V 2 = _ := hV2
          simp only [puts, List.drop, Act.put, hV0, hV1, hV2, hV3, hV4]
          replace B1 := Blk.stp hS4 B1 (by assumption)
          replace B2 := Blk.stp hS4 B2 (by assumption)
          have own2 := own1.stp hS4 (by assumption)
          have src := Sl.of_blk (xs := [x4]) B4 encI (by simp)
          have hS5 := hS.trans hS4
          have hz5 := hS4.grown.size
          clear hV0 hV1 hV2 hV3 hV4 own1 hS hS4 c2 f2
          go_wp2_with (at_builtin; refine app_own rfl _ _ appInt rfl encI (w2.heap.size + 1) v l rfl own2 _ 1 1 [x4] rfl (fun e => by cases e) src (by omega) (by omega) ?_; intro v' w5 own5 hg5; have B1a := B1.app own2 hg5 (by omega); have B2a := B2.app own2 hg5 (by omega); have hS6 := hS5.app own2 hg5 (by omega) (by omega); have c2 := B2a.c0; have f2 := B2a.frozen; obtain ⟨A5, c5, rfl, _, _, _⟩ := own5.sl encI; rw [show (l ++ [x4]).length = l.length + 1 by simp] at own5)
          go_roundg (gk - 1)
          case measure => omega
          case rel => exact ⟨kk - 1, l ++ [x4], _, by omega, by omega, by omega, by go_num, by simp; omega, B1a.far (by assumption) _, B2a.set_ 0 _, own5.far (by simp) _, (Stp.set _ (by assumption) (by assumption) (hS6.le (by simp; omega)))⟩
      · obtain rfl : kk = 0 := by omega
        clear hlt
        skip
        skip
        go_wp2_with fail; refine (odd_any _ (k) _ _ (by repeat (first | exact hS.rd | apply Rd.drew | apply Rd.alloc | (apply Rd.setCell; rotate_left; assumption))) (by omega) (by omega)).mono ?_; rintro e w4 ⟨q, rfl, hs⟩; replace own1 := Own.stpOf own1 hs (by repeat (first | exact own1 | apply Own.alloc | apply Own.drew)) (by assumption); replace B1 := Blk.stpOf B1 hs (by repeat (first | exact B1 | apply Blk.alloc | apply Blk.drew | (apply Blk.far; rotate_left; (first | assumption | exact Ne.symm (by assumption))) | apply Blk.set_)) (by assumption); replace B2 := Blk.stpOf B2 hs (by repeat (first | exact B2 | apply Blk.alloc | apply Blk.drew | (apply Blk.far; rotate_left; (first | assumption | exact Ne.symm (by assumption))) | apply Blk.set_)) (by assumption); replace hS := Stp.trans (by repeat (first | exact hS | apply Stp.drew | apply Stp.alloc | (apply Stp.set; assumption; assumption))) hs; clear hs
        cases q
        · obtain ⟨A, c, rfl, _, _, _⟩ := own1.sl encI
          have cB1_0 := B1.c0; have fB1 := B1.frozen; have cB2_0 := B2.c0; have fB2 := B2.frozen
          go_wp2
          exact bodyPost_ret (v := holdV (⟨A, _, c, l⟩, (1 + 0), 1)) (by simp [results, Try.results64, go_sem, holdV, SV.v, cB1_0, cB2_0]) rfl ⟨_, rfl, ((own1).far (p := ⟨w.heap.size, 0, none⟩) (by simp; omega) _).okv encI |>.mono (by omega), by simp; omega, by simp only []; omega, by simp only []; omega, (by repeat (first | exact hS.le (by omega) | apply Stp.drew | apply Stp.alloc | (apply Stp.set; assumption; assumption)))⟩
        · go_wp2_with fail; refine (pick_any _ (4) _ _ (by repeat (first | exact hS.rd | apply Rd.drew | apply Rd.alloc | (apply Rd.setCell; rotate_left; assumption))) (by omega) (by omega)).mono ?_; rintro e w5 ⟨v5, rfl, hv50, hv51, hs⟩; replace own1 := Own.stpOf own1 hs (by repeat (first | exact own1 | apply Own.alloc | apply Own.drew)) (by assumption); replace B1 := Blk.stpOf B1 hs (by repeat (first | exact B1 | apply Blk.alloc | apply Blk.drew | (apply Blk.far; rotate_left; (first | assumption | exact Ne.symm (by assumption))) | apply Blk.set_)) (by assumption); replace B2 := Blk.stpOf B2 hs (by repeat (first | exact B2 | apply Blk.alloc | apply Blk.drew | (apply Blk.far; rotate_left; (first | assumption | exact Ne.symm (by assumption))) | apply Blk.set_)) (by assumption); replace hS := Stp.trans (by repeat (first | exact hS | apply Stp.drew | apply Stp.alloc | (apply Stp.set; assumption; assumption))) hs; clear hs
          rcases (show v5 = 0 ∨ v5 = 1 ∨ v5 = 2 ∨ v5 = 3 by omega) with rfl | rfl | rfl | rfl
          · have B3 := Blk.new w5 3 #[.int .i64 0, .int .i64 4]; have lB3 := hS.rd.lt; have nB3 := Nat.ne_of_gt lB3; have sB3 := hS.grown.size; have dB1B3 := Nat.ne_of_lt B1.lt; have dB2B3 := Nat.ne_of_lt B2.lt
            go_wp2_with fail; refine (pick_any _ (2) _ _ (by repeat (first | exact hS.rd | apply Rd.drew | apply Rd.alloc | (apply Rd.setCell; rotate_left; assumption))) (by omega) (by omega)).mono ?_; rintro e w6 ⟨v6, rfl, hv60, hv61, hs⟩; replace own1 := Own.stpOf own1 hs (by repeat (first | exact own1 | apply Own.alloc | apply Own.drew)) (by assumption); replace B1 := Blk.stpOf B1 hs (by repeat (first | exact B1 | apply Blk.alloc | apply Blk.drew | (apply Blk.far; rotate_left; (first | assumption | exact Ne.symm (by assumption))) | apply Blk.set_)) (by assumption); replace B2 := Blk.stpOf B2 hs (by repeat (first | exact B2 | apply Blk.alloc | apply Blk.drew | (apply Blk.far; rotate_left; (first | assumption | exact Ne.symm (by assumption))) | apply Blk.set_)) (by assumption); replace B3 := Blk.stpOf B3 hs (by repeat (first | exact B3 | apply Blk.alloc | apply Blk.drew | (apply Blk.far; rotate_left; (first | assumption | exact Ne.symm (by assumption))) | apply Blk.set_)) (by assumption); replace hS := Stp.trans (by repeat (first | exact hS | apply Stp.drew | apply Stp.alloc | (apply Stp.set; assumption; assumption))) hs; clear hs
            have hs6 := sel_bd (lo := 0) (hi := 5) [0, 4] (by simp) (by simp) v6 hv60 hv61
            have g3 := (B3.cell v6.toNat).trans (litq2 hv60 hv61 _ _)
            obtain ⟨A, c, rfl, _, _, _⟩ := own1.sl encI
            have cB1_0 := B1.c0; have fB1 := B1.frozen; have cB2_0 := B2.c0; have fB2 := B2.frozen
            go_wp2
            exact bodyPost_ret (v := holdV (⟨A, _, c, l⟩, sel [0, 4] v6, 1)) (by simp [results, Try.results64, go_sem, holdV, SV.v, cB1_0, cB2_0]) rfl ⟨_, rfl, ((own1).far (p := ⟨w.heap.size, 0, none⟩) (by simp; omega) _).okv encI |>.mono (by omega), by simp; omega, by simp only []; omega, by simp only []; omega, (by repeat (first | exact hS.le (by omega) | apply Stp.drew | apply Stp.alloc | (apply Stp.set; assumption; assumption)))⟩
          · skip
            have B3 := Blk.new w5 3 #[.int .i64 0, .int .i64 5]; have lB3 := hS.rd.lt; have nB3 := Nat.ne_of_gt lB3; have sB3 := hS.grown.size; have dB1B3 := Nat.ne_of_lt B1.lt; have dB2B3 := Nat.ne_of_lt B2.lt
            go_wp2_with fail; refine (pick_any _ (2) _ _ (by repeat (first | exact hS.rd | apply Rd.drew | apply Rd.alloc | (apply Rd.setCell; rotate_left; assumption))) (by omega) (by omega)).mono ?_; rintro e w6 ⟨v6, rfl, hv60, hv61, hs⟩; replace own1 := Own.stpOf own1 hs (by repeat (first | exact own1 | apply Own.alloc | apply Own.drew)) (by assumption); replace B1 := Blk.stpOf B1 hs (by repeat (first | exact B1 | apply Blk.alloc | apply Blk.drew | (apply Blk.far; rotate_left; (first | assumption | exact Ne.symm (by assumption))) | apply Blk.set_)) (by assumption); replace B2 := Blk.stpOf B2 hs (by repeat (first | exact B2 | apply Blk.alloc | apply Blk.drew | (apply Blk.far; rotate_left; (first | assumption | exact Ne.symm (by assumption))) | apply Blk.set_)) (by assumption); replace B3 := Blk.stpOf B3 hs (by repeat (first | exact B3 | apply Blk.alloc | apply Blk.drew | (apply Blk.far; rotate_left; (first | assumption | exact Ne.symm (by assumption))) | apply Blk.set_)) (by assumption); replace hS := Stp.trans (by repeat (first | exact hS | apply Stp.drew | apply Stp.alloc | (apply Stp.set; assumption; assumption))) hs; clear hs
            have hs6 := sel_bd (lo := 0) (hi := 6) [0, 5] (by simp) (by simp) v6 hv60 hv61
            have g3 := (B3.cell v6.toNat).trans (litq2 hv60 hv61 _ _)
            obtain ⟨A, c, rfl, _, _, _⟩ := own1.sl encI
            have cB1_0 := B1.c0; have fB1 := B1.frozen; have cB2_0 := B2.c0; have fB2 := B2.frozen
            go_wp2
            exact bodyPost_ret (v := holdV (⟨A, _, c, l⟩, (1 + 0), sel [0, 5] v6)) (by simp [results, Try.results64, go_sem, holdV, SV.v, cB1_0, cB2_0]) rfl ⟨_, rfl, ((own1).far (p := ⟨w.heap.size, 0, none⟩) (by simp; omega) _).okv encI |>.mono (by omega), by simp; omega, by simp only []; omega, by simp only []; omega, (by repeat (first | exact hS.le (by omega) | apply Stp.drew | apply Stp.alloc | (apply Stp.set; assumption; assumption)))⟩
          · have own2 := own1.alloc (.cells #[.int .i64 256] 3)
            have src := Sl.of_blk (xs := [256]) (Blk.new w5 3 #[.int .i64 256]) encI (by simp)
            have hS2 := hS.alloc (.cells #[.int .i64 256] 3)
            have hz2 := B2.lt
            skip
            have cB1_0 := B1.c0; have fB1 := B1.frozen; have cB2_0 := B2.c0; have fB2 := B2.frozen
            go_wp2_with (at_builtin; (refine app_own rfl _ _ appInt rfl encI (w2.heap.size + 1) v l rfl own2 _ 1 1 [256] rfl (fun e => by cases e) src (by omega) (by simp; omega) ?_); (intro v' w6 own5 hg5; have B1a := (B1.alloc (.cells #[.int .i64 256] 3)).app own2 hg5 (by omega); have B2a := (B2.alloc (.cells #[.int .i64 256] 3)).app own2 hg5 (by omega); have hS6 := hS2.app own2 hg5 (by omega) (by omega); have e1 := B1a.c0; have e2 := B1a.frozen; have e3 := B2a.c0; have e4 := B2a.frozen; obtain ⟨A5, c5, rfl, _, _, _⟩ := own5.sl encI; rw [List.length_append, List.length_singleton] at own5))
            exact bodyPost_ret (v := holdV (⟨A5, _, c5, l ++ [256]⟩, (1 + 0), 1)) (by simp [results, Try.results64, go_sem, holdV, SV.v, e1, e3]) rfl ⟨_, rfl, ((own5.far (p := ⟨w2.heap.size, 0, none⟩) (by simp) _).far (p := ⟨w.heap.size, 0, none⟩) (by simp; omega) _).okv encI |>.mono (by omega), (by first | (simp; done) | (simp; omega)), by simp only []; omega, by simp only []; omega, Stp.set _ (by assumption) (by assumption) (Stp.set _ (by assumption) (by assumption) (hS6.le (by omega)))⟩
          · have hz2 := B2.lt
            have hz5 := hS.grown.size
            skip
            have cB1_0 := B1.c0; have fB1 := B1.frozen; have cB2_0 := B2.c0; have fB2 := B2.frozen
            go_wp2_with (refine make_own rfl _ _ zeroInt rfl encI (w2.heap.size + 1) _ _ (((1) : Int) + 1).toNat rfl rfl (by omega) (by omega) (by omega) (by omega) ?_; intro w6 own5 hg5; have hb6 := below_of_grown hg5; have B1a := B1.below hb6; have B2a := B2.below hb6; have hS6 := hS.none hg5; have e1 := B1a.c0; have e2 := B1a.frozen; have e3 := B2a.c0; have e4 := B2a.frozen)
            exact bodyPost_ret (v := holdV (⟨some ⟨w5.heap.size, 0, none⟩, _, (((1) : Int) + 1).toNat, List.replicate (((1) : Int) + 1).toNat 0⟩, (1 + 0), 1)) (by simp [results, Try.results64, go_sem, holdV, SV.v, e1, e3]) rfl ⟨_, rfl, ((own5.far (p := ⟨w2.heap.size, 0, none⟩) (by simp) _).far (p := ⟨w.heap.size, 0, none⟩) (by simp; omega) _).okv encI |>.mono (by omega), (by first | (simp; done) | (simp; omega)), by simp only []; omega, by simp only []; omega, Stp.set _ (by assumption) (by assumption) (Stp.set _ (by assumption) (by assumption) (hS6.le (by omega)))⟩
  · skip
    skip
    have lB3 : r < w2.heap.size + 1 := by omega
    go_wp2_with fail; refine (pick_any _ (_) _ _ (by repeat (first | exact hS.rd | apply Rd.drew | apply Rd.alloc | (apply Rd.setCell; rotate_left; assumption))) (by omega) (by omega)).mono ?_; rintro e w3 ⟨v3, rfl, hv30, hv31, hs⟩; replace B1 := Blk.stpOf B1 hs (by repeat (first | exact B1 | apply Blk.alloc | apply Blk.drew | (apply Blk.far; rotate_left; (first | assumption | exact Ne.symm (by assumption))) | apply Blk.set_)) (by assumption); replace B2 := Blk.stpOf B2 hs (by repeat (first | exact B2 | apply Blk.alloc | apply Blk.drew | (apply Blk.far; rotate_left; (first | assumption | exact Ne.symm (by assumption))) | apply Blk.set_)) (by assumption); replace hS := Stp.trans (by repeat (first | exact hS | apply Stp.drew | apply Stp.alloc | (apply Stp.set; assumption; assumption))) hs; clear hs
    go_wp2
    go_loopg [10] 20 (fun gg s10 wr => ∃ (kk : Int) (l : List Int) (v : Value), 0 ≤ kk ∧ kk ≤ gg ∧ gg ≤ 20 ∧ s10 = .int .i64 kk ∧ l.length + kk ≤ 5 ∧ Aside (Blk wr w.heap.size 52 #[.slice none 0 0]) ∧ Aside (Blk wr w2.heap.size 52 #[v]) ∧ Aside (Own wr (w2.heap.size + 1) 3 1 eI v l) ∧ Aside (Stp r 87 w (b + 4 + 10 * l.length) wr))
    case atStart => exact ⟨v3, [], _, by omega, by omega, by omega, rfl, by simp; omega, B1, B2, Own.nil, hS.le (by simp; omega)⟩
    case round =>
      obtain ⟨kk, l, v, hk0, hk1, hg, rfl, hl, BB1, BB2, OW, SS⟩ := hrel
      clear hS B1 B2
      have hS := SS.out
      have own1 := OW.out
      have B1 := BB1.out
      have B2 := BB2.out
      clear SS OW BB1 BB2
      have d1 := dB1B2
      have l1 := B1.lt
      have l2 := B2.lt
      by_cases hlt : 0 < kk
      · have c2 := B2.c0
        have f2 := B2.frozen
        go_wp2_with fail
        refine region_prefix (by kernel_rfl) (fun i v' w => tyHold r w2.heap.size v i v' w) r 87 5 _ wr wr (b + 4 + 10 * l.length) (by kernel_rfl) (by kernel_rfl) (fun i v' w w' => tyHold_stable) (Stp.refl hS.rd) ?_ ?_
        · intro i o him ho a w4 b' hb' hS1 hfr hdep
          have hs1 := Stp.refl hS1.rd
          have hbb : b' ≤ 1000000000 := by omega
          have B2' := Blk.stp hS1 B2 (by assumption)
          clear hS1 hS B1 B2 own1
          match i, ho, him with
          | 0, ho, _ =>
            injection ho with ho
            subst ho
            have h3 := hfr.2.2 9 (drawFr_spec (by kernel_rfl))
            clear hdep hfr hb'
            simp only [Array.getD_eq_getD_getElem?] at h3
            unfold Oper.wp
            go_simp
            exact Leaves.val rfl (hs1.le (by omega))
          | 1, ho, _ =>
            injection ho with ho
            subst ho
            have h6 := hdep ⟨0, .data⟩ (by simp) (by kernel_rfl) _ 28 rfl rfl
            have c2' := B2'.c0
            clear hdep hfr hb'
            replace h6 : a.tmps.getD 28 undef = _ := h6
            unfold Oper.wp
            go_simp
            exact Leaves.val rfl (hs1.le (by omega))
          | 2, ho, _ =>
            injection ho with ho
            subst ho
            have h3 := hfr.2.2 0 (drawFr_spec (by kernel_rfl))
            clear hdep hfr hb'
            simp only [Array.getD_eq_getD_getElem?] at h3
            unfold Oper.wp
            go_simp
            exact Leaves.val rfl (hs1.le (by omega))
          | 3, ho, _ =>
            injection ho with ho
            subst ho
            have h6 := hdep ⟨2, .data⟩ (by simp) (by kernel_rfl) _ 30 rfl rfl
            clear hdep hfr hb'
            replace h6 : a.tmps.getD 30 undef = _ := h6
            unfold Oper.wp
            go_simp
            refine (pick_any r 256 b' w4 hs1.rd hbb (by omega)).mono ?_
            rintro e w5 ⟨v, rfl, hv0, hv1, hs⟩
            exact Leaves.val ⟨v, rfl⟩ hs
          | 4, ho, _ =>
            injection ho with ho
            subst ho
            have h6 := hdep ⟨3, .data⟩ (by simp) (by kernel_rfl) _ 31 rfl rfl
            clear hdep hfr hb'
            obtain ⟨x, h6⟩ := h6
            simp only [Array.getD_eq_getD_getElem?] at h6
            unfold Oper.wp
            go_simp
            exact Leaves.val ⟨w4.heap.size, x, rfl, hs1.rd.lt, Blk.new w4 _ _⟩ ((hs1.alloc _).le (by omega))
          | n + 5, _, h => omega
        · intro V w4 hV hS4
          have hV0 := hV 0 _ 28 (by decide) rfl rfl
          have hV1 := hV 1 _ 29 (by decide) rfl rfl
          have hV2 := hV 2 _ 30 (by decide) rfl rfl
          obtain ⟨x3, hV3⟩ := hV 3 _ 31 (by decide) rfl rfl
          obtain ⟨g4, x4, hV4, hg4, B4⟩ := hV 4 _ 32 (by decide) rfl rfl
          clear hV
          replace hV0 : V 0 = _ := hV0
          replace hV1 : V 1 = _ := hV1
          replace hV2 : V 2 = _ := hV2
          simp only [puts, List.drop, Act.put, hV0, hV1, hV2, hV3, hV4]
          replace B1 := Blk.stp hS4 B1 (by assumption)
          replace B2 := Blk.stp hS4 B2 (by assumption)
          have own2 := own1.stp hS4 (by assumption)
          have src := Sl.of_blk (xs := [x4]) B4 encI (by simp)
          have hS5 := hS.trans hS4
          have hz5 := hS4.grown.size
          clear hV0 hV1 hV2 hV3 hV4 own1 hS hS4 c2 f2
          go_wp2_with (at_builtin; refine app_own rfl _ _ appInt rfl encI (w2.heap.size + 1) v l rfl own2 _ 1 1 [x4] rfl (fun e => by cases e) src (by omega) (by omega) ?_; intro v' w5 own5 hg5; have B1a := B1.app own2 hg5 (by omega); have B2a := B2.app own2 hg5 (by omega); have hS6 := hS5.app own2 hg5 (by omega) (by omega); have c2 := B2a.c0; have f2 := B2a.frozen; obtain ⟨A5, c5, rfl, _, _, _⟩ := own5.sl encI; rw [show (l ++ [x4]).length = l.length + 1 by simp] at own5)
          go_roundg (gk - 1)
          case measure => omega
          case rel => exact ⟨kk - 1, l ++ [x4], _, by omega, by omega, by omega, by go_num, by simp; omega, B1a.far (by assumption) _, B2a.set_ 0 _, own5.far (by simp) _, (Stp.set _ (by assumption) (by assumption) (hS6.le (by simp; omega)))⟩
      · obtain rfl : kk = 0 := by omega
        clear hlt
        skip
        skip
        go_wp2_with fail; refine (odd_any _ (k) _ _ (by repeat (first | exact hS.rd | apply Rd.drew | apply Rd.alloc | (apply Rd.setCell; rotate_left; assumption))) (by omega) (by omega)).mono ?_; rintro e w4 ⟨q, rfl, hs⟩; replace own1 := Own.stpOf own1 hs (by repeat (first | exact own1 | apply Own.alloc | apply Own.drew)) (by assumption); replace B1 := Blk.stpOf B1 hs (by repeat (first | exact B1 | apply Blk.alloc | apply Blk.drew | (apply Blk.far; rotate_left; (first | assumption | exact Ne.symm (by assumption))) | apply Blk.set_)) (by assumption); replace B2 := Blk.stpOf B2 hs (by repeat (first | exact B2 | apply Blk.alloc | apply Blk.drew | (apply Blk.far; rotate_left; (first | assumption | exact Ne.symm (by assumption))) | apply Blk.set_)) (by assumption); replace hS := Stp.trans (by repeat (first | exact hS | apply Stp.drew | apply Stp.alloc | (apply Stp.set; assumption; assumption))) hs; clear hs
        cases q
        · obtain ⟨A, c, rfl, _, _, _⟩ := own1.sl encI
          have cB1_0 := B1.c0; have fB1 := B1.frozen; have cB2_0 := B2.c0; have fB2 := B2.frozen
          go_wp2
          exact bodyPost_ret (v := holdV (⟨A, _, c, l⟩, (1 + v1), (1 + v2))) (by simp [results, Try.results64, go_sem, holdV, SV.v, cB1_0, cB2_0]) rfl ⟨_, rfl, ((own1).far (p := ⟨w.heap.size, 0, none⟩) (by simp; omega) _).okv encI |>.mono (by omega), by simp; omega, by simp only []; omega, by simp only []; omega, (by repeat (first | exact hS.le (by omega) | apply Stp.drew | apply Stp.alloc | (apply Stp.set; assumption; assumption)))⟩
        · go_wp2_with fail; refine (pick_any _ (4) _ _ (by repeat (first | exact hS.rd | apply Rd.drew | apply Rd.alloc | (apply Rd.setCell; rotate_left; assumption))) (by omega) (by omega)).mono ?_; rintro e w5 ⟨v5, rfl, hv50, hv51, hs⟩; replace own1 := Own.stpOf own1 hs (by repeat (first | exact own1 | apply Own.alloc | apply Own.drew)) (by assumption); replace B1 := Blk.stpOf B1 hs (by repeat (first | exact B1 | apply Blk.alloc | apply Blk.drew | (apply Blk.far; rotate_left; (first | assumption | exact Ne.symm (by assumption))) | apply Blk.set_)) (by assumption); replace B2 := Blk.stpOf B2 hs (by repeat (first | exact B2 | apply Blk.alloc | apply Blk.drew | (apply Blk.far; rotate_left; (first | assumption | exact Ne.symm (by assumption))) | apply Blk.set_)) (by assumption); replace hS := Stp.trans (by repeat (first | exact hS | apply Stp.drew | apply Stp.alloc | (apply Stp.set; assumption; assumption))) hs; clear hs
          rcases (show v5 = 0 ∨ v5 = 1 ∨ v5 = 2 ∨ v5 = 3 by omega) with rfl | rfl | rfl | rfl
          · have B3 := Blk.new w5 3 #[.int .i64 0, .int .i64 4]; have lB3 := hS.rd.lt; have nB3 := Nat.ne_of_gt lB3; have sB3 := hS.grown.size; have dB1B3 := Nat.ne_of_lt B1.lt; have dB2B3 := Nat.ne_of_lt B2.lt
            go_wp2_with fail; refine (pick_any _ (2) _ _ (by repeat (first | exact hS.rd | apply Rd.drew | apply Rd.alloc | (apply Rd.setCell; rotate_left; assumption))) (by omega) (by omega)).mono ?_; rintro e w6 ⟨v6, rfl, hv60, hv61, hs⟩; replace own1 := Own.stpOf own1 hs (by repeat (first | exact own1 | apply Own.alloc | apply Own.drew)) (by assumption); replace B1 := Blk.stpOf B1 hs (by repeat (first | exact B1 | apply Blk.alloc | apply Blk.drew | (apply Blk.far; rotate_left; (first | assumption | exact Ne.symm (by assumption))) | apply Blk.set_)) (by assumption); replace B2 := Blk.stpOf B2 hs (by repeat (first | exact B2 | apply Blk.alloc | apply Blk.drew | (apply Blk.far; rotate_left; (first | assumption | exact Ne.symm (by assumption))) | apply Blk.set_)) (by assumption); replace B3 := Blk.stpOf B3 hs (by repeat (first | exact B3 | apply Blk.alloc | apply Blk.drew | (apply Blk.far; rotate_left; (first | assumption | exact Ne.symm (by assumption))) | apply Blk.set_)) (by assumption); replace hS := Stp.trans (by repeat (first | exact hS | apply Stp.drew | apply Stp.alloc | (apply Stp.set; assumption; assumption))) hs; clear hs
            have hs6 := sel_bd (lo := 0) (hi := 5) [0, 4] (by simp) (by simp) v6 hv60 hv61
            have g3 := (B3.cell v6.toNat).trans (litq2 hv60 hv61 _ _)
            obtain ⟨A, c, rfl, _, _, _⟩ := own1.sl encI
            have cB1_0 := B1.c0; have fB1 := B1.frozen; have cB2_0 := B2.c0; have fB2 := B2.frozen
            go_wp2
            exact bodyPost_ret (v := holdV (⟨A, _, c, l⟩, sel [0, 4] v6, (1 + v2))) (by simp [results, Try.results64, go_sem, holdV, SV.v, cB1_0, cB2_0]) rfl ⟨_, rfl, ((own1).far (p := ⟨w.heap.size, 0, none⟩) (by simp; omega) _).okv encI |>.mono (by omega), by simp; omega, by simp only []; omega, by simp only []; omega, (by repeat (first | exact hS.le (by omega) | apply Stp.drew | apply Stp.alloc | (apply Stp.set; assumption; assumption)))⟩
          · skip
            have B3 := Blk.new w5 3 #[.int .i64 0, .int .i64 5]; have lB3 := hS.rd.lt; have nB3 := Nat.ne_of_gt lB3; have sB3 := hS.grown.size; have dB1B3 := Nat.ne_of_lt B1.lt; have dB2B3 := Nat.ne_of_lt B2.lt
            go_wp2_with fail; refine (pick_any _ (2) _ _ (by repeat (first | exact hS.rd | apply Rd.drew | apply Rd.alloc | (apply Rd.setCell; rotate_left; assumption))) (by omega) (by omega)).mono ?_; rintro e w6 ⟨v6, rfl, hv60, hv61, hs⟩; replace own1 := Own.stpOf own1 hs (by repeat (first | exact own1 | apply Own.alloc | apply Own.drew)) (by assumption); replace B1 := Blk.stpOf B1 hs (by repeat (first | exact B1 | apply Blk.alloc | apply Blk.drew | (apply Blk.far; rotate_left; (first | assumption | exact Ne.symm (by assumption))) | apply Blk.set_)) (by assumption); replace B2 := Blk.stpOf B2 hs (by repeat (first | exact B2 | apply Blk.alloc | apply Blk.drew | (apply Blk.far; rotate_left; (first | assumption | exact Ne.symm (by assumption))) | apply Blk.set_)) (by assumption); replace B3 := Blk.stpOf B3 hs (by repeat (first | exact B3 | apply Blk.alloc | apply Blk.drew | (apply Blk.far; rotate_left; (first | assumption | exact Ne.symm (by assumption))) | apply Blk.set_)) (by assumption); replace hS := Stp.trans (by repeat (first | exact hS | apply Stp.drew | apply Stp.alloc | (apply Stp.set; assumption; assumption))) hs; clear hs
            have hs6 := sel_bd (lo := 0) (hi := 6) [0, 5] (by simp) (by simp) v6 hv60 hv61
            have g3 := (B3.cell v6.toNat).trans (litq2 hv60 hv61 _ _)
            obtain ⟨A, c, rfl, _, _, _⟩ := own1.sl encI
            have cB1_0 := B1.c0; have fB1 := B1.frozen; have cB2_0 := B2.c0; have fB2 := B2.frozen
            go_wp2
            exact bodyPost_ret (v := holdV (⟨A, _, c, l⟩, (1 + v1), sel [0, 5] v6)) (by simp [results, Try.results64, go_sem, holdV, SV.v, cB1_0, cB2_0]) rfl ⟨_, rfl, ((own1).far (p := ⟨w.heap.size, 0, none⟩) (by simp; omega) _).okv encI |>.mono (by omega), by simp; omega, by simp only []; omega, by simp only []; omega, (by repeat (first | exact hS.le (by omega) | apply Stp.drew | apply Stp.alloc | (apply Stp.set; assumption; assumption)))⟩
          · have own2 := own1.alloc (.cells #[.int .i64 256] 3)
            have src := Sl.of_blk (xs := [256]) (Blk.new w5 3 #[.int .i64 256]) encI (by simp)
            have hS2 := hS.alloc (.cells #[.int .i64 256] 3)
            have hz2 := B2.lt
            skip
            have cB1_0 := B1.c0; have fB1 := B1.frozen; have cB2_0 := B2.c0; have fB2 := B2.frozen
            go_wp2_with (at_builtin; (refine app_own rfl _ _ appInt rfl encI (w2.heap.size + 1) v l rfl own2 _ 1 1 [256] rfl (fun e => by cases e) src (by omega) (by simp; omega) ?_); (intro v' w6 own5 hg5; have B1a := (B1.alloc (.cells #[.int .i64 256] 3)).app own2 hg5 (by omega); have B2a := (B2.alloc (.cells #[.int .i64 256] 3)).app own2 hg5 (by omega); have hS6 := hS2.app own2 hg5 (by omega) (by omega); have e1 := B1a.c0; have e2 := B1a.frozen; have e3 := B2a.c0; have e4 := B2a.frozen; obtain ⟨A5, c5, rfl, _, _, _⟩ := own5.sl encI; rw [List.length_append, List.length_singleton] at own5))
            exact bodyPost_ret (v := holdV (⟨A5, _, c5, l ++ [256]⟩, (1 + v1), (1 + v2))) (by simp [results, Try.results64, go_sem, holdV, SV.v, e1, e3]) rfl ⟨_, rfl, ((own5.far (p := ⟨w2.heap.size, 0, none⟩) (by simp) _).far (p := ⟨w.heap.size, 0, none⟩) (by simp; omega) _).okv encI |>.mono (by omega), (by first | (simp; done) | (simp; omega)), by simp only []; omega, by simp only []; omega, Stp.set _ (by assumption) (by assumption) (Stp.set _ (by assumption) (by assumption) (hS6.le (by omega)))⟩
          · have hz2 := B2.lt
            have hz5 := hS.grown.size
            skip
            have cB1_0 := B1.c0; have fB1 := B1.frozen; have cB2_0 := B2.c0; have fB2 := B2.frozen
            go_wp2_with (refine make_own rfl _ _ zeroInt rfl encI (w2.heap.size + 1) _ _ ((((1 + v2)) : Int) + 1).toNat rfl rfl (by omega) (by omega) (by omega) (by omega) ?_; intro w6 own5 hg5; have hb6 := below_of_grown hg5; have B1a := B1.below hb6; have B2a := B2.below hb6; have hS6 := hS.none hg5; have e1 := B1a.c0; have e2 := B1a.frozen; have e3 := B2a.c0; have e4 := B2a.frozen)
            exact bodyPost_ret (v := holdV (⟨some ⟨w5.heap.size, 0, none⟩, _, ((((1 + v2)) : Int) + 1).toNat, List.replicate ((((1 + v2)) : Int) + 1).toNat 0⟩, (1 + v1), (1 + v2))) (by simp [results, Try.results64, go_sem, holdV, SV.v, e1, e3]) rfl ⟨_, rfl, ((own5.far (p := ⟨w2.heap.size, 0, none⟩) (by simp) _).far (p := ⟨w.heap.size, 0, none⟩) (by simp; omega) _).okv encI |>.mono (by omega), (by first | (simp; done) | (simp; omega)), by simp only []; omega, by simp only []; omega, Stp.set _ (by assumption) (by assumption) (Stp.set _ (by assumption) (by assumption) (hS6.le (by omega)))⟩
end Go.Proofs.Ytpiijdfnhkmkaaa
