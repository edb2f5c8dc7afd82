/- Keys and numbers: the draws. -/
import Derived.Test.YthellpcohdbbfaaPick
import Derived.Test.YthellpcohdbbfaaAppT
namespace Go.Proofs.Ythellpcohdbbfaa
set_option linter.unusedVariables false
set_option linter.unusedSimpArgs false
open Go.RowKit

set_option maxHeartbeats 1000000 in
theorem l20Key_any (r : Nat) (b : Int) (w : World) (h : Rd w r 88 b) (hb : b ≤ 999999000) :
    Calls Try.prog 67 #[.pointer (some ⟨r, 0, none⟩)] w (Post (.int .i64) fun x w' => -1 ≤ x ∧ x ≤ 1048573 ∧ Stp r 88 w (b + 10) w') := by
  have hS := Stp.refl h
  clear h
  skip
  go_enter Try.func67, Try.ntmps67
  go_wp2_with fail; refine (pick_any _ (256) _ _ (by repeat (first | exact hS.rd | apply Rd.drew | apply Rd.alloc | (apply Rd.setCell; rotate_left; assumption))) (by omega) (by omega)).mono ?_; rintro e w1 ⟨v1, rfl, hv10, hv11, hs⟩; replace hS := Stp.trans (by repeat (first | exact hS | apply Stp.drew | apply Stp.alloc | (apply Stp.set; assumption; assumption))) hs; clear hs
  go_wp2_with fail; refine (pick_any _ (256) _ _ (by repeat (first | exact hS.rd | apply Rd.drew | apply Rd.alloc | (apply Rd.setCell; rotate_left; assumption))) (by omega) (by omega)).mono ?_; rintro e w2 ⟨v2, rfl, hv20, hv21, hs⟩; replace hS := Stp.trans (by repeat (first | exact hS | apply Stp.drew | apply Stp.alloc | (apply Stp.set; assumption; assumption))) hs; clear hs
  have B1 := Blk.new w2 3 #[.int .i64 (v1 * 4097), .int .i64 v2, .int .i64 (-1), .int .i64 1048572, .int .i64 1048573]; have lB1 := hS.rd.lt; have nB1 := Nat.ne_of_gt lB1; have sB1 := hS.grown.size
  have lB2 : r < w2.heap.size + 1 := by omega
  have nB2 : w2.heap.size + 1 ≠ r := by omega
  have sB2 : w.heap.size ≤ w2.heap.size + 1 := by omega
  have dB1B2 : w2.heap.size ≠ w2.heap.size + 1 := by omega
  have B2 := Blk.new2 w2 (.cells #[.int .i64 (v1 * 4097), .int .i64 v2, .int .i64 (-1), .int .i64 1048572, .int .i64 1048573] 3) 3 #[.int .i64 0, .int .i64 0, .int .i64 0, .int .i64 1, .int .i64 1, .int .i64 2, .int .i64 3, .int .i64 4]
  skip
  go_wp2_with fail; refine (pick_any _ (8) _ _ (by repeat (first | exact hS.rd | apply Rd.drew | apply Rd.alloc | (apply Rd.setCell; rotate_left; assumption))) (by omega) (by omega)).mono ?_; rintro e w3 ⟨v3, rfl, hv30, hv31, hs⟩; replace B1 := Blk.stpOf B1 hs (by repeat (first | exact B1 | apply Blk.alloc | apply Blk.drew | (apply Blk.far; rotate_left; (first | assumption | exact Ne.symm (by assumption))) | apply Blk.set_)) (by assumption); replace B2 := Blk.stpOf B2 hs (by repeat (first | exact B2 | apply Blk.alloc | apply Blk.drew | (apply Blk.far; rotate_left; (first | assumption | exact Ne.symm (by assumption))) | apply Blk.set_)) (by assumption); replace hS := Stp.trans (by repeat (first | exact hS | apply Stp.drew | apply Stp.alloc | (apply Stp.set; assumption; assumption))) hs; clear hs
  have h1 := sel_bd (lo := 0) (hi := 5) [0, 0, 0, 1, 1, 2, 3, 4] (by decide) (by decide) v3 hv30 hv31
  have g2 := (B2.cell v3.toNat).trans (litq (cs := [0, 0, 0, 1, 1, 2, 3, 4]) hv30 hv31)
  have h2 := sel_bd (lo := -1) (hi := 1048574) [v1 * 4097, v2, -1, 1048572, 1048573] (by simp; omega) (by simp) _ h1.1 h1.2
  have g1 := (B1.cell (sel [0, 0, 0, 1, 1, 2, 3, 4] v3).toNat).trans (litq (cs := [v1 * 4097, v2, -1, 1048572, 1048573]) h1.1 h1.2)
  obtain ⟨h10, h11⟩ := h1
  generalize sel [v1 * 4097, v2, -1, 1048572, 1048573] (sel [0, 0, 0, 1, 1, 2, 3, 4] v3) = y at g1 h2
  generalize sel [0, 0, 0, 1, 1, 2, 3, 4] v3 = x at g1 g2 h10 h11
  go_wp2
  go_ret
  exact ⟨_, rfl, by omega, by omega, (by repeat (first | exact hS.le (by omega) | apply Stp.drew | apply Stp.alloc | (apply Stp.set; assumption; assumption)))⟩

def i64ok (y : Int) : Prop := -9223372036854775808 ≤ y ∧ y < 9223372036854775808
set_option maxHeartbeats 1000000 in
theorem l20Ints_any (r : Nat) (most b : Int) (w : World) (h : Rd w r 88 b) (hb : b ≤ 999999000) (hm : 0 ≤ most ∧ most ≤ 20) :
    Calls Try.prog 68 #[.pointer (some ⟨r, 0, none⟩), .int .i64 most] w (Post SV.v fun s w' => SV.ok w' w.heap.size 1 eI s ∧ s.n ≤ 20 ∧ (∀ y ∈ s.xs, i64ok y) ∧ Stp r 88 w (b + 300) w') := by
  have hS := Stp.refl h
  have hr0 := h.lt
  obtain ⟨hm0, hm1⟩ := hm
  clear h
  skip
  have own0 : Own (w.alloc (.cells #[] 3)) w.heap.size 3 1 eI _ ([] : List Int) := Own.of_blk (Blk.new w 3 #[]) (Nat.le_refl _) encI (by simp [maxLen])
  skip
  go_enter Try.func68, Try.ntmps68
  go_wp2_with fail; refine (pick_any _ (most + 1) _ _ (by repeat (first | exact hS.rd | apply Rd.drew | apply Rd.alloc | (apply Rd.setCell; rotate_left; assumption))) (by omega) (by omega)).mono ?_; rintro e w0 ⟨v0, rfl, hv00, hv01, hs⟩; replace own0 := Own.stpOf own0 hs (by repeat (first | exact own0 | apply Own.alloc | apply Own.drew)) (by assumption); replace hS := Stp.trans (by repeat (first | exact hS | apply Stp.drew | apply Stp.alloc | (apply Stp.set; assumption; assumption))) hs; clear hs
  go_wp2
  go_loopg [5, 6] 20 (fun gg s5 s6 wr => ∃ (kk : Int) (l : List Int), 0 ≤ kk ∧ kk ≤ gg ∧ gg ≤ 20 ∧ s6 = .int .i64 kk ∧ l.length + kk ≤ 20 ∧ Aside (Own wr w.heap.size 3 1 eI s5 l) ∧ Aside (∀ y ∈ l, i64ok y) ∧ Aside (Stp r 88 w (b + 1 + 10 * l.length) wr))
  case atStart => exact ⟨v0, [], by omega, by omega, by omega, rfl, by simp; omega, own0, (show Aside _ from fun y hy => by cases hy), hS.le (by simp)⟩
  case round =>
    obtain ⟨kk, l, hk0, hk1, hg, rfl, hl, OW, BB, SS⟩ := hrel
    clear hS own0
    have hS := SS.out
    have own1 := OW.out
    clear SS OW
    by_cases hlt : 0 < kk
    · skip
      go_wp2_with fail; refine (pick_any _ (256) _ _ (by repeat (first | exact hS.rd | apply Rd.drew | apply Rd.alloc | (apply Rd.setCell; rotate_left; assumption))) (by omega) (by omega)).mono ?_; rintro e w1 ⟨v1, rfl, hv10, hv11, hs⟩; replace own1 := Own.stpOf own1 hs (by repeat (first | exact own1 | apply Own.alloc | apply Own.drew)) (by assumption); replace hS := Stp.trans (by repeat (first | exact hS | apply Stp.drew | apply Stp.alloc | (apply Stp.set; assumption; assumption))) hs; clear hs
      go_wp2_with fail; refine (pick_any _ (9) _ _ (by repeat (first | exact hS.rd | apply Rd.drew | apply Rd.alloc | (apply Rd.setCell; rotate_left; assumption))) (by omega) (by omega)).mono ?_; rintro e w2 ⟨v2, rfl, hv20, hv21, hs⟩; replace own1 := Own.stpOf own1 hs (by repeat (first | exact own1 | apply Own.alloc | apply Own.drew)) (by assumption); replace hS := Stp.trans (by repeat (first | exact hS | apply Stp.drew | apply Stp.alloc | (apply Stp.set; assumption; assumption))) hs; clear hs
      go_wp2_with fail; refine (pick_any _ (256) _ _ (by repeat (first | exact hS.rd | apply Rd.drew | apply Rd.alloc | (apply Rd.setCell; rotate_left; assumption))) (by omega) (by omega)).mono ?_; rintro e w3 ⟨v3, rfl, hv30, hv31, hs⟩; replace own1 := Own.stpOf own1 hs (by repeat (first | exact own1 | apply Own.alloc | apply Own.drew)) (by assumption); replace hS := Stp.trans (by repeat (first | exact hS | apply Stp.drew | apply Stp.alloc | (apply Stp.set; assumption; assumption))) hs; clear hs
      have B1 := Blk.new w3 3 #[.int .i64 v1, .int .i64 (-v2), .int .i64 (v3 * 4097), .int .i64 9223372036854775807, .int .i64 (-9223372036854775808)]; have lB1 := hS.rd.lt; have nB1 := Nat.ne_of_gt lB1; have sB1 := hS.grown.size
      have lB2 : r < w3.heap.size + 1 := by omega
      have nB2 : w3.heap.size + 1 ≠ r := by omega
      have sB2 : w.heap.size ≤ w3.heap.size + 1 := by omega
      have dB1B2 : w3.heap.size ≠ w3.heap.size + 1 := by omega
      have B2 := Blk.new2 w3 (.cells #[.int .i64 v1, .int .i64 (-v2), .int .i64 (v3 * 4097), .int .i64 9223372036854775807, .int .i64 (-9223372036854775808)] 3) 3 #[.int .i64 0, .int .i64 0, .int .i64 0, .int .i64 1, .int .i64 2, .int .i64 2, .int .i64 3, .int .i64 4]
      skip
      go_wp2_with fail; refine (pick_any _ (8) _ _ (by repeat (first | exact hS.rd | apply Rd.drew | apply Rd.alloc | (apply Rd.setCell; rotate_left; assumption))) (by omega) (by omega)).mono ?_; rintro e w4 ⟨v4, rfl, hv40, hv41, hs⟩; replace own1 := Own.stpOf own1 hs (by repeat (first | exact own1 | apply Own.alloc | apply Own.drew)) (by assumption); replace B1 := Blk.stpOf B1 hs (by repeat (first | exact B1 | apply Blk.alloc | apply Blk.drew | (apply Blk.far; rotate_left; (first | assumption | exact Ne.symm (by assumption))) | apply Blk.set_)) (by assumption); replace B2 := Blk.stpOf B2 hs (by repeat (first | exact B2 | apply Blk.alloc | apply Blk.drew | (apply Blk.far; rotate_left; (first | assumption | exact Ne.symm (by assumption))) | apply Blk.set_)) (by assumption); replace hS := Stp.trans (by repeat (first | exact hS | apply Stp.drew | apply Stp.alloc | (apply Stp.set; assumption; assumption))) hs; clear hs
      have h1 := sel_bd (lo := 0) (hi := 5) [0, 0, 0, 1, 2, 2, 3, 4] (by decide) (by decide) v4 hv40 hv41
      have g2 := (B2.cell v4.toNat).trans (litq (cs := [0, 0, 0, 1, 2, 2, 3, 4]) hv40 hv41)
      have g1 := (B1.cell (sel [0, 0, 0, 1, 2, 2, 3, 4] v4).toNat).trans (litq (cs := [v1, -v2, v3 * 4097, 9223372036854775807, -9223372036854775808]) h1.1 h1.2)
      obtain ⟨h10, h11⟩ := h1
      have h2 : i64ok _ := sel_bd (lo := -9223372036854775808) (hi := 9223372036854775808) [v1, -v2, v3 * 4097, 9223372036854775807, -9223372036854775808] (by simp; omega) (by simp) _ h10 h11
      replace h2 := Lib.hid h2
      clear B1 B2
      generalize sel [v1, -v2, v3 * 4097, 9223372036854775807, -9223372036854775808] (sel [0, 0, 0, 1, 2, 2, 3, 4] v4) = y at g1 h2
      generalize sel [0, 0, 0, 1, 2, 2, 3, 4] v4 = x at g1 g2 h10 h11
      have src : Sl (w4.alloc (.cells #[.int .i64 y] 3)) 1 eI (some ⟨w4.heap.size, 0, none⟩) 1 1 [y] := Sl.of_blk (xs := [y]) (Blk.new w4 3 #[.int .i64 y]) encI (by simp)
      have own2 := own1.alloc (.cells #[.int .i64 y] 3)
      have hS2 := hS.alloc (.cells #[.int .i64 y] 3)
      go_wp2_with (at_builtin; refine app_own rfl _ _ appInt rfl encI w.heap.size _ l rfl own2 _ 1 1 [y] rfl (fun e => by cases e) src (by omega) hS2.grown.size ?_; intro v' w5 own5 hg5; have hS5 := hS2.app own2 hg5 (Nat.le_refl _) hr0)
      go_roundg (gk - 1)
      case measure => omega
      case rel => exact ⟨kk - 1, l ++ [y], by omega, by omega, by omega, by go_num, by simp; omega, own5, (show Aside _ from fun z hz => (List.mem_append.1 hz).elim (BB.out z) (fun h => by rw [List.mem_singleton.1 h]; exact h2.out)), hS5.le (by simp; omega)⟩
    · obtain rfl : kk = 0 := by omega
      go_wp2
      obtain ⟨A, c, rfl, hA, hsl, hfr⟩ := own1.sl encI
      go_ret
      exact ⟨⟨A, _, c, l⟩, rfl, ⟨hsl, fun g o e => (hfr g o e).1, hA.1, hA.2⟩, by simp; omega, BB.out, hS.le (by omega)⟩

def kvV (x : Int × SV Int) : Value := .tuple #[.int .i64 x.1, x.2.v]
end Go.Proofs.Ythellpcohdbbfaa