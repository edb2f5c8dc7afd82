/- Padded jobs: the draws. -/
import Derived.Test.YthellpcohdbbfaaPick
import Derived.Test.YthellpcohdbbfaaSel
import Derived.Test.YthellpcohdbbfaaAppT
namespace Go.Proofs.Ythellpcohdbbfaa
set_option linter.unusedVariables false
set_option linter.unusedSimpArgs false
open Go.RowKit

def JobB (y : Int) : Prop := 0 ≤ y ∧ y ≤ 21
set_option maxRecDepth 100000 in
set_option maxHeartbeats 2000000 in
theorem l20Jobs_any (r : Nat) (k b : Int) (w : World) (h : Rd w r 88 b) (hb : b ≤ 999998000) (hk : -1000 ≤ k) :
    Calls Try.prog 61 #[.pointer (some ⟨r, 0, none⟩), .int .i64 k] w (Post SV.v fun s w' => SV.ok w' w.heap.size 1 eI s ∧ s.n ≤ 13 ∧ (∀ x ∈ s.xs, JobB x) ∧ Stp r 88 w (b + 100) w') := by
  have hS := Stp.refl h
  have hr0 := h.lt
  clear h
  skip
  have own0 : Own (w.alloc (.cells #[] 3)) w.heap.size 3 1 eI _ ([] : List Int) := Own.of_blk (Blk.new w 3 #[]) (Nat.le_refl _) encI (by simp [maxLen])
  skip
  go_enter Try.func61, Try.ntmps61
  go_wp2_with fail; refine (pick_any _ (7) _ _ (by repeat (first | exact hS.rd | apply Rd.drew | apply Rd.alloc | (apply Rd.setCell; rotate_left; assumption))) (by omega) (by omega)).mono ?_; rintro e w0 ⟨v0, rfl, hv00, hv01, hs⟩; replace own0 := Own.stpOf own0 hs (by repeat (first | exact own0 | apply Own.alloc | apply Own.drew)) (by assumption); replace hS := Stp.trans (by repeat (first | exact hS | apply Stp.drew | apply Stp.alloc | (apply Stp.set; assumption; assumption))) hs; clear hs
  go_wp2
  go_loopg [5, 6] 20 (fun gg s5 s6 wr => ∃ (kk : Int) (l : List Int), 0 ≤ kk ∧ kk ≤ gg ∧ gg ≤ 20 ∧ s6 = .int .i64 kk ∧ l.length + kk ≤ 6 ∧ Aside (Own wr w.heap.size 3 1 eI s5 l) ∧ Aside (∀ y ∈ l, JobB y) ∧ Aside (Stp r 88 w (b + 1 + 10 * l.length) wr))
  case atStart => exact ⟨v0, [], by omega, by omega, by omega, rfl, by simp; omega, own0, (show Aside _ from fun y hy => by cases hy), hS.le (by simp)⟩
  case round =>
    obtain ⟨kk, l, hk0, hk1, hg, rfl, hl, OW, BB, SS⟩ := hrel
    clear hS own0
    have hS := SS.out
    have own1 := OW.out
    clear SS OW
    by_cases hlt : 0 < kk
    · skip
      go_wp2_with fail; refine (pick_any _ (12) _ _ (by repeat (first | exact hS.rd | apply Rd.drew | apply Rd.alloc | (apply Rd.setCell; rotate_left; assumption))) (by omega) (by omega)).mono ?_; rintro e w1 ⟨v1, rfl, hv10, hv11, hs⟩; replace own1 := Own.stpOf own1 hs (by repeat (first | exact own1 | apply Own.alloc | apply Own.drew)) (by assumption); replace hS := Stp.trans (by repeat (first | exact hS | apply Stp.drew | apply Stp.alloc | (apply Stp.set; assumption; assumption))) hs; clear hs
      have src : Sl ((w1).alloc (.cells #[.int .i64 (1 + v1)] 3)) 1 eI (some ⟨(w1).heap.size, 0, none⟩) 1 1 [(1 + v1 : Int)] := Sl.of_blk (xs := [(1 + v1 : Int)]) (Blk.new (w1) 3 #[.int .i64 (1 + v1)]) encI (by simp)
      have own2 := own1.alloc (.cells #[.int .i64 (1 + v1)] 3)
      have hS2 := hS.alloc (.cells #[.int .i64 (1 + v1)] 3)
      go_wp2_with (at_builtin; refine app_own rfl _ _ appInt rfl encI w.heap.size _ l rfl own2 _ 1 1 [(1 + v1 : Int)] rfl (fun e => by cases e) src (by omega) hS2.grown.size ?_; intro v' w9 own5 hg5; have hS5 := hS2.app own2 hg5 (Nat.le_refl _) hr0)
      go_roundg (gk - 1)
      case measure => omega
      case rel => exact ⟨kk - 1, l ++ [1 + v1], by omega, by omega, by omega, by go_num, by simp; omega, own5, (show Aside _ from fun z hz => (List.mem_append.1 hz).elim (BB.out z) (fun h => by rw [List.mem_singleton.1 h]; unfold JobB; omega)), hS5.le (by simp; omega)⟩
    · obtain rfl : kk = 0 := by omega
      clear hlt
      skip
      go_wp2_with fail; refine (odd_any _ (k) _ _ (by repeat (first | exact hS.rd | apply Rd.drew | apply Rd.alloc | (apply Rd.setCell; rotate_left; assumption))) (by omega) (by omega)).mono ?_; rintro e w1 ⟨q, rfl, hs⟩; replace own1 := Own.stpOf own1 hs (by repeat (first | exact own1 | apply Own.alloc | apply Own.drew)) (by assumption); replace hS := Stp.trans (by repeat (first | exact hS | apply Stp.drew | apply Stp.alloc | (apply Stp.set; assumption; assumption))) hs; clear hs
      cases q
      · go_wp2
        obtain ⟨A9, c9, rfl, hA9, hsl9, hfr9⟩ := own1.sl encI
        go_ret
        exact ⟨⟨A9, _, c9, l⟩, rfl, ⟨hsl9, fun g o e => (hfr9 g o e).1, hA9.1, hA9.2⟩, by simp only []; omega, BB.out, hS.le (by omega)⟩
      · go_wp2_with fail; refine (pick_any _ (2) _ _ (by repeat (first | exact hS.rd | apply Rd.drew | apply Rd.alloc | (apply Rd.setCell; rotate_left; assumption))) (by omega) (by omega)).mono ?_; rintro e w2 ⟨v2, rfl, hv20, hv21, hs⟩; replace own1 := Own.stpOf own1 hs (by repeat (first | exact own1 | apply Own.alloc | apply Own.drew)) (by assumption); replace hS := Stp.trans (by repeat (first | exact hS | apply Stp.drew | apply Stp.alloc | (apply Stp.set; assumption; assumption))) hs; clear hs
        rcases (show v2 = 0 ∨ v2 = 1 by omega) with rfl | rfl
        · have B1 := Blk.new w2 3 #[.int .i64 0, .int .i64 21]; have lB1 := hS.rd.lt; have nB1 := Nat.ne_of_gt lB1; have sB1 := hS.grown.size
          go_wp2_with fail; refine (pick_any _ (2) _ _ (by repeat (first | exact hS.rd | apply Rd.drew | apply Rd.alloc | (apply Rd.setCell; rotate_left; assumption))) (by omega) (by omega)).mono ?_; rintro e w3 ⟨v3, rfl, hv30, hv31, hs⟩; replace own1 := Own.stpOf own1 hs (by repeat (first | exact own1 | apply Own.alloc | apply Own.drew)) (by assumption); replace B1 := Blk.stpOf B1 hs (by repeat (first | exact B1 | apply Blk.alloc | apply Blk.drew | (apply Blk.far; rotate_left; (first | assumption | exact Ne.symm (by assumption))) | apply Blk.set_)) (by assumption); replace hS := Stp.trans (by repeat (first | exact hS | apply Stp.drew | apply Stp.alloc | (apply Stp.set; assumption; assumption))) hs; clear hs
          have hs3 := sel_bd (lo := 0) (hi := 22) [0, 21] (by simp) (by simp) v3 hv30 hv31
          have g1 := (B1.cell v3.toNat).trans (litq2 hv30 hv31 _ _)
          generalize sel [0, 21] v3 = y at *
          have src : Sl ((w3).alloc (.cells #[.int .i64 (y)] 3)) 1 eI (some ⟨(w3).heap.size, 0, none⟩) 1 1 [(y : Int)] := Sl.of_blk (xs := [(y : Int)]) (Blk.new (w3) 3 #[.int .i64 (y)]) encI (by simp)
          have own2 := own1.alloc (.cells #[.int .i64 (y)] 3)
          have hS2 := hS.alloc (.cells #[.int .i64 (y)] 3)
          go_wp2_with (at_builtin; refine app_own rfl _ _ appInt rfl encI w.heap.size _ l rfl own2 _ 1 1 [(y : Int)] rfl (fun e => by cases e) src (by omega) hS2.grown.size ?_; intro v' w9 own5 hg5; have hS5 := hS2.app own2 hg5 (Nat.le_refl _) hr0)
          obtain ⟨A9, c9, rfl, hA9, hsl9, hfr9⟩ := own5.sl encI
          go_ret
          exact ⟨⟨A9, _, c9, l ++ [y]⟩, rfl, ⟨hsl9, fun g o e => (hfr9 g o e).1, hA9.1, hA9.2⟩, by simp; omega, (fun z hz => (List.mem_append.1 hz).elim (BB.out z) (fun h => by rw [List.mem_singleton.1 h]; unfold JobB; omega)), hS5.le (by omega)⟩
        · go_wp2_with (at_make; refine make_own rfl _ _ zeroInt rfl encI w.heap.size _ _ 13 rfl rfl (by omega) (by omega) (by omega) hS.grown.size ?_; intro w9 own9 hg9; have hS9 := hS.none hg9)
          go_ret
          exact ⟨⟨_, _, _, List.replicate 13 0⟩, rfl, own9.okv encI, by simp, (fun z hz => by rw [List.eq_of_mem_replicate hz]; unfold JobB; omega), hS9.le (by omega)⟩

theorem drawPadStarts_any (A : Option Addr) (n c : Nat) (zs : List Int) (w : World) (h : Code w A n c zs) :
    Calls Try.prog 29 #[.slice A n c] w (Post SV.v fun s w' => SV.ok w' w.heap.size 1 eI s ∧ s.n ≤ 13 ∧ (∀ x ∈ s.xs, JobB x) ∧ Below w.heap.size w w') := by
  obtain ⟨r, hr, hrw⟩ : ∃ r, w.heap.size = r ∧ w.heap.size ≤ r := ⟨_, rfl, Nat.le_refl _⟩
  have hopen := open_at r A n c zs w h hr
  clear h hr
  go_enter Try.func29, Try.ntmps29
  go_wp2_with fail
  refine hopen.mono ?_
  rintro e w0 ⟨rfl, hrd, hb, hsz⟩
  replace hb := hb.mono hrw
  have hS := Stp.refl hrd
  have hr0 := hrd.lt
  clear hrd hopen
  go_wp2_with fail; refine (l20Jobs_any r 6 _ _ (by repeat (first | exact hS.rd | apply Rd.drew | apply Rd.alloc | (apply Rd.setCell; rotate_left; assumption))) (by omega) (by omega)).mono ?_; rintro e w1 ⟨s, rfl, hs1, hs2, hs3, hs⟩; replace hS := Stp.trans (by repeat (first | exact hS | apply Stp.drew | apply Stp.alloc | (apply Stp.set; assumption; assumption))) hs; clear hs
  have hBel := hS.belowT (a := w) (B := w.heap.size) hb (by assumption) hb.size
  go_wp2
  go_ret
  exact ⟨s, rfl, ⟨hs1.sl, fun b o e => Nat.le_trans hb.size (hs1.fresh b o e), hs1.nil, hs1.spot⟩, hs2, hs3, hBel⟩
end Go.Proofs.Ythellpcohdbbfaa
