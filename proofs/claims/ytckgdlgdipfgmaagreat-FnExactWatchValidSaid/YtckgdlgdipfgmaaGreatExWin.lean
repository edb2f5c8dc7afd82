/- The exact laws' own functions at []Window: sz, to, eq. -/
import Derived.Test.YtckgdlgdipfgmaaGreatFill
import Derived.Test.YtckgdlgdipfgmaaGreatAppT
import Derived.Test.YtckgdlgdipfgmaaGreatSWin
import Derived.Test.YtckgdlgdipfgmaaGreatNear
import Derived.Test.YtckgdlgdipfgmaaGreatList
namespace Go.Proofs.YtckgdlgdipfgmaaGreat
set_option linter.unusedVariables false
set_option linter.unusedSimpArgs false
open Go.RowKit

theorem encW : Enc Win.cells 3 := ⟨fun _ => rfl, fun x u h => by simp [Win.cells] at h; rcases h with rfl | rfl | rfl <;> rfl⟩
def winV (x : Win) : Value := .agg #[.int .i64 x.base, .int .i64 x.size, .bool x.wr]
theorem zeroWin : ZeroT Tryz.prog 116 121 3 Win.cells (⟨0, 0, false⟩ : Win) := ZeroT.mk' (z := .agg #[.int .i64 0, .int .i64 0, .bool false]) (by kernel_rfl) (by kernel_rfl) rfl (by decide) (bytes := 24) (by decide)

def szOf (n : Nat) (left : Int) : Int := if left - (n : Int) < 0 then -1 else left - n
theorem szWindowS_any (A : Option Addr) (n c : Nat) (left : Int) (hl : 0 ≤ left ∧ left ≤ 1048576) (hn : n ≤ 9223372036854775807) (w : World) :
    Calls Tryz.prog 131 #[.slice A n c, .int .i64 left] w fun e w' => .returned (.int .i64 (szOf n left)) = e ∧ w = w' := by
  obtain ⟨h1, h2⟩ := hl
  unfold szOf
  by_cases h : left - (n : Int) < 0
  · rw [if_pos h]
    go_enter Tryz.func131, Tryz.ntmps131
    go_wp2
    go_ret
    exact ⟨rfl, rfl⟩
  · rw [if_neg h]
    go_enter Tryz.func131, Tryz.ntmps131
    go_wp2
    go_ret
    exact ⟨rfl, rfl⟩

theorem toWindow_any (x : Win) (w : World) : Calls Tryz.prog 148 #[winV x] w fun e w' => .returned (winV x) = e ∧ Below w.heap.size w w' := by
  obtain ⟨b, s, z⟩ := x
  simp only [winV]
  go_enter Tryz.func148, Tryz.ntmps148
  go_wp2
  exact bodyPost_ret (v := winV ⟨b, s, z⟩) (by simp [results, Tryz.results148, go_sem, winV]) rfl ⟨rfl, (by repeat (first | exact Below.refl _ _ | assumption | apply alo | (apply Below.setCell; rotate_left; (first | assumption | exact Nat.le_refl _ | (simp only []; omega))) | apply Below.drew | apply belowDrewN | (refine thn ?_ (by assumption))))⟩

theorem eqWindow_any (x : Win) (w : World) : Calls Tryz.prog 154 #[winV x, winV x] w fun e w' => .returned (.bool true) = e ∧ Below w.heap.size w w' := by
  obtain ⟨b, s, z⟩ := x
  simp only [winV]
  go_enter Tryz.func154, Tryz.ntmps154
  go_wp2
  go_ret
  exact ⟨rfl, (by repeat (first | exact Below.refl _ _ | assumption | apply alo | (apply Below.setCell; rotate_left; (first | assumption | exact Nat.le_refl _ | (simp only []; omega))) | apply Below.drew | apply belowDrewN | (refine thn ?_ (by assumption))))⟩

set_option maxHeartbeats 1000000 in
theorem toWindowS_any (A : Option Addr) (n c : Nat) (xs : List Win) (hn : n ≤ 1048576) (w : World) (hs : Sl w 3 Win.cells A n c xs) :
    Calls Tryz.prog 133 #[.slice A n c] w (Post (whole n) fun g w' => Blk w' g 121 (xs.flatMap Win.cells).toArray ∧ w.heap.size ≤ g ∧ Below w.heap.size w w') := by
  have hle := hs.le
  have hmax := hs.max
  have hl := hs.len
  go_enter Tryz.func133, Tryz.ntmps133
  go_wp2_with (at_make; refine make_own rfl _ _ zeroWin rfl encW w.heap.size _ _ n rfl rfl (by omega) (by omega) (by omega) (Nat.le_refl _) ?_; intro w1 own1 hg1; have hb1 := below_of_grown hg1; have U1 : Upto w1 w.heap.size 121 0 (xs.flatMap Win.cells) := Upto.made (n := n) (c := n) encW own1 (by rw [List.length_replicate]; exact hl); clear own1 hg1)
  go_loopg [4] n (fun gg s4 wr => ∃ kk : Nat, kk ≤ n ∧ n - kk ≤ gg ∧ s4 = .int .i64 kk ∧ Aside (Below w.heap.size w wr) ∧ Aside (Upto wr w.heap.size 121 (kk * 3) (xs.flatMap Win.cells)))
  case atStart => exact ⟨0, Nat.zero_le _, by omega, rfl, (show Aside _ from hb1), (show Aside _ from by rw [Nat.zero_mul]; exact U1)⟩
  case round =>
    obtain ⟨kk, hkk, hg, rfl, BW, UU⟩ := hrel
    clear hb1 U1
    have U1 := UU.out
    clear UU
    by_cases hlt : kk < n
    · have hltz : (kk : Int) < (n : Int) := by omega
      obtain ⟨b, o, rfl, y, hx, hc⟩ := hs.nth hlt BW.out
      have hc0 := hc 0 _ rfl
      have hc1 := hc 1 _ rfl
      have hc2 := hc 2 _ rfl
      have f0 := Lib.hid (flat_at encW hx 0 (kk * 3) _ rfl rfl)
      have f1 := Lib.hid (flat_at encW hx 1 (kk * 3 + 1) _ rfl rfl)
      have f2 := Lib.hid (flat_at encW hx 2 (kk * 3 + 2) _ rfl rfl)
      clear hc hx
      have hq := fun W => toWindow_any y W
      obtain ⟨yb, ys, yw⟩ := y
      simp only [Win.cells, Nat.add_zero, winV] at hc0 hc1 hc2 hq f0 f1 f2
      have hz := U1.lt
      go_wp2_with fail
      refine (hq _).mono ?_
      rintro e w2 ⟨rfl, hb2⟩
      replace U1 := U1.below hb2
      have hB2 := thn BW.out hb2
      have hfr := U1.frozen
      obtain ⟨v0, e0⟩ := U1.has f0.out
      obtain ⟨v1, e1⟩ := U1.has f1.out
      obtain ⟨v2, e2⟩ := U1.has f2.out
      clear hb2 hq
      go_wp2
      go_roundg (n - (kk + 1))
      case measure => omega
      case rel => exact ⟨kk + 1, by omega, by omega, by go_num, (show Aside _ from below_set3' hB2 (Nat.le_refl _) _ _ _ _ _ _), (show Aside _ from by have := ((U1.set f0.out).set f1.out).set f2.out; rw [show (kk + 1) * 3 = kk * 3 + 1 + 1 + 1 by omega]; exact this)⟩
    · have hltz : ¬ (kk : Int) < (n : Int) := by omega
      obtain rfl : kk = n := by omega
      go_wp2
      go_ret
      exact ⟨w.heap.size, rfl, U1.full (by rw [flatMap_len encW.len, hl]; omega), Nat.le_refl _, BW.out⟩

theorem eqWindowS_any (A A' : Option Addr) (n c c' : Nat) (xs : List Win) (w : World) (hs : Sl w 3 Win.cells A n c xs) (hs' : Sl w 3 Win.cells A' n c' xs) :
    Calls Tryz.prog 141 #[.slice A n c, .slice A' n c'] w fun e w' => .returned (.bool true) = e ∧ Below w.heap.size w w' := by
  have hle := hs.le
  have hmax := hs.max
  have hle' := hs'.le
  go_enter Tryz.func141, Tryz.ntmps141
  go_wp2
  go_loopg [5] n (fun gg s3 wr => ∃ kk : Nat, kk ≤ n ∧ n - kk ≤ gg ∧ s3 = .int .i64 kk ∧ Aside (Below w.heap.size w wr))
  case atStart => exact ⟨0, Nat.zero_le _, by omega, rfl, (show Aside _ from Below.refl _ _)⟩
  case round =>
    obtain ⟨kk, hkk, hg, rfl, BW⟩ := hrel
    by_cases hlt : kk < n
    · have hltz : (kk : Int) < (n : Int) := by omega
      obtain ⟨b, o, rfl, y, hx, hc⟩ := hs.nth hlt BW.out
      obtain ⟨b', o', rfl, y', hx', hc'⟩ := hs'.nth hlt BW.out
      obtain rfl : y = y' := by rw [hx'] at hx; injection hx with hx; exact hx.symm
      clear hx hx'
      have hq := fun W => eqWindow_any y W
      have g0 := fun x : Near wr => (x.b.cell (p := ⟨b, o + kk * 3 + 0, none⟩) (World.block_lt_of_cell? _ _ (hc 0 _ rfl))).trans (hc 0 _ rfl)
      have g1 := fun x : Near wr => (x.b.cell (p := ⟨b, o + kk * 3 + 1, none⟩) (World.block_lt_of_cell? _ _ (hc 1 _ rfl))).trans (hc 1 _ rfl)
      have g2 := fun x : Near wr => (x.b.cell (p := ⟨b, o + kk * 3 + 2, none⟩) (World.block_lt_of_cell? _ _ (hc 2 _ rfl))).trans (hc 2 _ rfl)
      have g0' := fun x : Near wr => (x.b.cell (p := ⟨b', o' + kk * 3 + 0, none⟩) (World.block_lt_of_cell? _ _ (hc' 0 _ rfl))).trans (hc' 0 _ rfl)
      have g1' := fun x : Near wr => (x.b.cell (p := ⟨b', o' + kk * 3 + 1, none⟩) (World.block_lt_of_cell? _ _ (hc' 1 _ rfl))).trans (hc' 1 _ rfl)
      have g2' := fun x : Near wr => (x.b.cell (p := ⟨b', o' + kk * 3 + 2, none⟩) (World.block_lt_of_cell? _ _ (hc' 2 _ rfl))).trans (hc' 2 _ rfl)
      clear hc hc'
      obtain ⟨yb, ys, yw⟩ := y
      simp only [Win.cells, Nat.add_zero, winV] at g0 g1 g2 g0' g1' g2' hq
      skip
      go_wp2_with fail
      refine wp_region_near (by kernel_rfl) (by kernel_rfl) ?_; (repeat (go_big_quiet_step (first | (go_at_call 154; with_reducible exact near_call (hq _))))); refine wpQuiet_nil ?_; intro xN; have hbw2 := xN.b; generalize xN.W = w2 at hbw2 ⊢; clear xN
      clear g0 g1 g2 g0' g1' g2' hq
      go_wp2
      go_roundg (n - (kk + 1))
      case measure => omega
      case rel => exact ⟨kk + 1, by omega, by omega, by go_num, (show Aside _ from thn BW.out hbw2)⟩
    · have hltz : ¬ (kk : Int) < (n : Int) := by omega
      obtain rfl : kk = n := by omega
      go_wp2
      go_ret
      exact ⟨rfl, BW.out⟩
end Go.Proofs.YtckgdlgdipfgmaaGreat
