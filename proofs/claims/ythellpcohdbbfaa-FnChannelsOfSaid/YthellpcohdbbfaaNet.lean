/- Channels and a number of partitions drawn. -/
import Derived.Test.YthellpcohdbbfaaDChan
namespace Go.Proofs.Ythellpcohdbbfaa
set_option linter.unusedVariables false
set_option linter.unusedSimpArgs false
open Go.RowKit

def netV (x : SV (Int × Int × Int × Int) × Int) : Value := .tuple #[x.1.v, .int .i64 x.2]
set_option maxHeartbeats 1000000 in
theorem l20Net_any (r : Nat) (k b : Int) (w : World) (h : Rd w r 88 b) (hb : b ≤ 999990000) (hk : -1000 ≤ k) :
    Calls Try.prog 54 #[.pointer (some ⟨r, 0, none⟩), .int .i64 k] w (Post netV fun x w' => SV.ok w' w.heap.size 4 eC x.1 ∧ x.1.n ≤ 13 ∧ (∀ y ∈ x.1.xs, ChanB y) ∧ (-1 ≤ x.2 ∧ x.2 ≤ 6) ∧ Stp r 88 w (b + 120) w') := by
  have hS := Stp.refl h
  have hr0 := h.lt
  clear h
  skip
  go_enter Try.func54, Try.ntmps54
  go_wp2_with fail; refine (pick_any _ (5) _ _ (by repeat (first | exact hS.rd | apply Rd.drew | apply Rd.alloc | (apply Rd.setCell; rotate_left; assumption))) (by omega) (by omega)).mono ?_; rintro e w0 ⟨v0, rfl, hv00, hv01, hs⟩; replace hS := Stp.trans (by repeat (first | exact hS | apply Stp.drew | apply Stp.alloc | (apply Stp.set; assumption; assumption))) hs; clear hs
  have hz0 := hS.grown.size
  go_wp2_with fail; refine (l20Channels_any r (1 + v0) k _ _ (by repeat (first | exact hS.rd | apply Rd.drew | apply Rd.alloc | (apply Rd.setCell; rotate_left; assumption))) (by omega) (by omega)).mono ?_; rintro e w1 ⟨s, rfl, hs1, hs2, hs3, hs⟩; replace hS := Stp.trans (by repeat (first | exact hS | apply Stp.drew | apply Stp.alloc | (apply Stp.set; assumption; assumption))) hs; clear hs
  go_wp2_with fail
  refine (odd_any _ 20 _ _ hS.rd (by omega) (by omega)).mono ?_
  rintro e w2 ⟨q, rfl, hs⟩
  have hsl2 : Sl w2 4 eC s.A s.n s.c s.xs := hs1.sl.stp hs fun b o e => by have := hs1.fresh b o e; omega
  replace hS := Stp.trans (by repeat (first | exact hS | apply Stp.drew | apply Stp.alloc)) hs; clear hs
  cases q
  · go_wp2
    go_ret2
    exact ⟨(s, 1 + v0), rfl, ⟨hsl2, fun b o e => Nat.le_trans hz0 (hs1.fresh b o e), hs1.nil, hs1.spot⟩, hs2, hs3, (by simp only []; omega), hS.le (by omega)⟩
  · have B1 := Blk.new w2 3 #[.int .i64 (-1), .int .i64 6]; have lB1 := hS.rd.lt; have nB1 := Nat.ne_of_gt lB1; have sB1 := hS.grown.size
    go_wp2_with fail
    refine (pick_any _ 2 _ _ (hS.alloc _).rd (by omega) (by omega)).mono ?_
    rintro e w3 ⟨v3, rfl, hv30, hv31, hs⟩
    have hsl3 : Sl w3 4 eC s.A s.n s.c s.xs := (hsl2.below ((Below.refl _ _).alloc (Nat.le_refl _) (.cells #[.int .i64 (-1), .int .i64 6] 3))).stp hs fun b o e => by have := hs1.fresh b o e; omega
    replace B1 := Blk.stp hs B1 (by assumption)
    replace hS := Stp.trans (by repeat (first | exact hS | apply Stp.drew | apply Stp.alloc)) hs; clear hs
    have hs3' := sel_bd (lo := -1) (hi := 7) [-1, 6] (by simp) (by simp) v3 hv30 hv31
    have g1 := (B1.cell v3.toNat).trans (litq2 hv30 hv31 _ _)
    go_wp2
    go_ret2
    exact ⟨(s, sel [-1, 6] v3), rfl, ⟨hsl3, fun b o e => Nat.le_trans hz0 (hs1.fresh b o e), hs1.nil, hs1.spot⟩, hs2, hs3, (by simp only []; omega), hS.le (by omega)⟩

end Go.Proofs.Ythellpcohdbbfaa