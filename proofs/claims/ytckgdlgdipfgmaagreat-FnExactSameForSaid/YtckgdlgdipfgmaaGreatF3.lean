/- The exact laws' own functions at []Window: sz, to, eq. The exact laws' own functions at []Order: sz, to, eq. The exact laws' own functions at []int: sz, to, eq. More on lists of the call's own beside other blocks. Slices that may be written: what marking does to them. The exact laws' own functions at Hold: sz, to, eq, mark, held. The exact laws' own functions at elements that hold a slice. -/
import Derived.Test.YtckgdlgdipfgmaaGreatF1
import Derived.Test.YtckgdlgdipfgmaaGreatF2

namespace Go.Proofs.YtckgdlgdipfgmaaGreat
set_option linter.unusedVariables false
set_option linter.unusedSimpArgs false
open Go.RowKit

theorem encW : Enc Win.cells 3 := ⟨fun _ => rfl, fun x u h => by simp [Win.cells] at h; rcases h with rfl | rfl | rfl <;> rfl⟩
def winV (x : Win) : Value := .agg #[.int .i64 x.base, .int .i64 x.size, .bool x.wr]
theorem zeroWin : ZeroT Tryz.prog 116 121 3 Win.cells (⟨0, 0, false⟩ : Win) := ZeroT.mk' (z := .agg #[.int .i64 0, .int .i64 0, .bool false]) (by kernel_rfl) (by kernel_rfl) rfl (by decide) (bytes := 24) (by decide)

def szOf (n : Nat) (left : Int) : Int := if left - (n : Int) < 0 then -1 else left - n
theorem szWindowS_any (A : Option Addr) (n c : Nat) (left : Int) (hl : 0 ≤ left ∧ left ≤ 1048576) (hn : n ≤ 9223372036854775807) (w : World) :
    Calls Tryz.prog 131 #[.slice A n c, .int .i64 left] w fun e w' => .returned (.int .i64 (szOf n left)) = e ∧ w = w' := by
  obtain ⟨h1, h2⟩ := hl
  unfold szOf
  by_cases h : left - (n : Int) < 0
  · rw [if_pos h]
    go_enter Tryz.func131, Tryz.ntmps131
    go_wp2
    go_ret
    exact ⟨rfl, rfl⟩
  · rw [if_neg h]
    go_enter Tryz.func131, Tryz.ntmps131
    go_wp2
    go_ret
    exact ⟨rfl, rfl⟩

theorem toWindow_any (x : Win) (w : World) : Calls Tryz.prog 148 #[winV x] w fun e w' => .returned (winV x) = e ∧ Below w.heap.size w w' := by
  obtain ⟨b, s, z⟩ := x
  simp only [winV]
  go_enter Tryz.func148, Tryz.ntmps148
  go_wp2
  exact bodyPost_ret (v := winV ⟨b, s, z⟩) (by simp [results, Tryz.results148, go_sem, winV]) rfl ⟨rfl, (by repeat (first | exact Below.refl _ _ | assumption | apply alo | (apply Below.setCell; rotate_left; (first | assumption | exact Nat.le_refl _ | (simp only []; omega))) | apply Below.drew | apply belowDrewN | (refine thn ?_ (by assumption))))⟩

theorem eqWindow_any (x : Win) (w : World) : Calls Tryz.prog 154 #[winV x, winV x] w fun e w' => .returned (.bool true) = e ∧ Below w.heap.size w w' := by
  obtain ⟨b, s, z⟩ := x
  simp only [winV]
  go_enter Tryz.func154, Tryz.ntmps154
  go_wp2
  go_ret
  exact ⟨rfl, (by repeat (first | exact Below.refl _ _ | assumption | apply alo | (apply Below.setCell; rotate_left; (first | assumption | exact Nat.le_refl _ | (simp only []; omega))) | apply Below.drew | apply belowDrewN | (refine thn ?_ (by assumption))))⟩

set_option maxHeartbeats 1000000 in
theorem toWindowS_any (A : Option Addr) (n c : Nat) (xs : List Win) (hn : n ≤ 1048576) (w : World) (hs : Sl w 3 Win.cells A n c xs) :
    Calls Tryz.prog 133 #[.slice A n c] w (Post (whole n) fun g w' => Blk w' g 121 (xs.flatMap Win.cells).toArray ∧ w.heap.size ≤ g ∧ Below w.heap.size w w') := by
  have hle := hs.le
  have hmax := hs.max
  have hl := hs.len
  go_enter Tryz.func133, Tryz.ntmps133
  go_wp2_with (at_make; refine make_own rfl _ _ zeroWin rfl encW w.heap.size _ _ n rfl rfl (by omega) (by omega) (by omega) (Nat.le_refl _) ?_; intro w1 own1 hg1; have hb1 := below_of_grown hg1; have U1 : Upto w1 w.heap.size 121 0 (xs.flatMap Win.cells) := Upto.made (n := n) (c := n) encW own1 (by rw [List.length_replicate]; exact hl); clear own1 hg1)
  go_loopg [4] n (fun gg s4 wr => ∃ kk : Nat, kk ≤ n ∧ n - kk ≤ gg ∧ s4 = .int .i64 kk ∧ Aside (Below w.heap.size w wr) ∧ Aside (Upto wr w.heap.size 121 (kk * 3) (xs.flatMap Win.cells)))
  case atStart => exact ⟨0, Nat.zero_le _, by omega, rfl, (show Aside _ from hb1), (show Aside _ from by rw [Nat.zero_mul]; exact U1)⟩
  case round =>
    obtain ⟨kk, hkk, hg, rfl, BW, UU⟩ := hrel
    clear hb1 U1
    have U1 := UU.out
    clear UU
    by_cases hlt : kk < n
    · have hltz : (kk : Int) < (n : Int) := by omega
      obtain ⟨b, o, rfl, y, hx, hc⟩ := hs.nth hlt BW.out
      have hc0 := hc 0 _ rfl
      have hc1 := hc 1 _ rfl
      have hc2 := hc 2 _ rfl
      have f0 := Lib.hid (flat_at encW hx 0 (kk * 3) _ rfl rfl)
      have f1 := Lib.hid (flat_at encW hx 1 (kk * 3 + 1) _ rfl rfl)
      have f2 := Lib.hid (flat_at encW hx 2 (kk * 3 + 2) _ rfl rfl)
      clear hc hx
      have hq := fun W => toWindow_any y W
      obtain ⟨yb, ys, yw⟩ := y
      simp only [Win.cells, Nat.add_zero, winV] at hc0 hc1 hc2 hq f0 f1 f2
      have hz := U1.lt
      go_wp2_with fail
      refine (hq _).mono ?_
      rintro e w2 ⟨rfl, hb2⟩
      replace U1 := U1.below hb2
      have hB2 := thn BW.out hb2
      have hfr := U1.frozen
      obtain ⟨v0, e0⟩ := U1.has f0.out
      obtain ⟨v1, e1⟩ := U1.has f1.out
      obtain ⟨v2, e2⟩ := U1.has f2.out
      clear hb2 hq
      go_wp2
      go_roundg (n - (kk + 1))
      case measure => omega
      case rel => exact ⟨kk + 1, by omega, by omega, by go_num, (show Aside _ from below_set3' hB2 (Nat.le_refl _) _ _ _ _ _ _), (show Aside _ from by have := ((U1.set f0.out).set f1.out).set f2.out; rw [show (kk + 1) * 3 = kk * 3 + 1 + 1 + 1 by omega]; exact this)⟩
    · have hltz : ¬ (kk : Int) < (n : Int) := by omega
      obtain rfl : kk = n := by omega
      go_wp2
      go_ret
      exact ⟨w.heap.size, rfl, U1.full (by rw [flatMap_len encW.len, hl]; omega), Nat.le_refl _, BW.out⟩

theorem eqWindowS_any (A A' : Option Addr) (n c c' : Nat) (xs : List Win) (w : World) (hs : Sl w 3 Win.cells A n c xs) (hs' : Sl w 3 Win.cells A' n c' xs) :
    Calls Tryz.prog 141 #[.slice A n c, .slice A' n c'] w fun e w' => .returned (.bool true) = e ∧ Below w.heap.size w w' := by
  have hle := hs.le
  have hmax := hs.max
  have hle' := hs'.le
  go_enter Tryz.func141, Tryz.ntmps141
  go_wp2
  go_loopg [5] n (fun gg s3 wr => ∃ kk : Nat, kk ≤ n ∧ n - kk ≤ gg ∧ s3 = .int .i64 kk ∧ Aside (Below w.heap.size w wr))
  case atStart => exact ⟨0, Nat.zero_le _, by omega, rfl, (show Aside _ from Below.refl _ _)⟩
  case round =>
    obtain ⟨kk, hkk, hg, rfl, BW⟩ := hrel
    by_cases hlt : kk < n
    · have hltz : (kk : Int) < (n : Int) := by omega
      obtain ⟨b, o, rfl, y, hx, hc⟩ := hs.nth hlt BW.out
      obtain ⟨b', o', rfl, y', hx', hc'⟩ := hs'.nth hlt BW.out
      obtain rfl : y = y' := by rw [hx'] at hx; injection hx with hx; exact hx.symm
      clear hx hx'
      have hq := fun W => eqWindow_any y W
      have g0 := fun x : Near wr => (x.b.cell (p := ⟨b, o + kk * 3 + 0, none⟩) (World.block_lt_of_cell? _ _ (hc 0 _ rfl))).trans (hc 0 _ rfl)
      have g1 := fun x : Near wr => (x.b.cell (p := ⟨b, o + kk * 3 + 1, none⟩) (World.block_lt_of_cell? _ _ (hc 1 _ rfl))).trans (hc 1 _ rfl)
      have g2 := fun x : Near wr => (x.b.cell (p := ⟨b, o + kk * 3 + 2, none⟩) (World.block_lt_of_cell? _ _ (hc 2 _ rfl))).trans (hc 2 _ rfl)
      have g0' := fun x : Near wr => (x.b.cell (p := ⟨b', o' + kk * 3 + 0, none⟩) (World.block_lt_of_cell? _ _ (hc' 0 _ rfl))).trans (hc' 0 _ rfl)
      have g1' := fun x : Near wr => (x.b.cell (p := ⟨b', o' + kk * 3 + 1, none⟩) (World.block_lt_of_cell? _ _ (hc' 1 _ rfl))).trans (hc' 1 _ rfl)
      have g2' := fun x : Near wr => (x.b.cell (p := ⟨b', o' + kk * 3 + 2, none⟩) (World.block_lt_of_cell? _ _ (hc' 2 _ rfl))).trans (hc' 2 _ rfl)
      clear hc hc'
      obtain ⟨yb, ys, yw⟩ := y
      simp only [Win.cells, Nat.add_zero, winV] at g0 g1 g2 g0' g1' g2' hq
      skip
      go_wp2_with fail
      refine wp_region_near (by kernel_rfl) (by kernel_rfl) ?_; (repeat (go_big_quiet_step (first | (go_at_call 154; with_reducible exact near_call (hq _))))); refine wpQuiet_nil ?_; intro xN; have hbw2 := xN.b; generalize xN.W = w2 at hbw2 ⊢; clear xN
      clear g0 g1 g2 g0' g1' g2' hq
      go_wp2
      go_roundg (n - (kk + 1))
      case measure => omega
      case rel => exact ⟨kk + 1, by omega, by omega, by go_num, (show Aside _ from thn BW.out hbw2)⟩
    · have hltz : ¬ (kk : Int) < (n : Int) := by omega
      obtain rfl : kk = n := by omega
      go_wp2
      go_ret
      exact ⟨rfl, BW.out⟩
end Go.Proofs.YtckgdlgdipfgmaaGreat

namespace Go.Proofs.YtckgdlgdipfgmaaGreat
set_option linter.unusedVariables false
set_option linter.unusedSimpArgs false
open Go.RowKit

def szOfOrder (n : Nat) (left : Int) : Int := if left - (n : Int) < 0 then -1 else left - n
theorem szOrderS_any (A : Option Addr) (n c : Nat) (left : Int) (hl : 0 ≤ left ∧ left ≤ 1048576) (hn : n ≤ 9223372036854775807) (w : World) :
    Calls Tryz.prog 65 #[.slice A n c, .int .i64 left] w fun e w' => .returned (.int .i64 (szOfOrder n left)) = e ∧ w = w' := by
  obtain ⟨h1, h2⟩ := hl
  unfold szOfOrder
  by_cases h : left - (n : Int) < 0
  · rw [if_pos h]
    go_enter Tryz.func65, Tryz.ntmps65
    go_wp2
    go_ret
    exact ⟨rfl, rfl⟩
  · rw [if_neg h]
    go_enter Tryz.func65, Tryz.ntmps65
    go_wp2
    go_ret
    exact ⟨rfl, rfl⟩

theorem toOrder_any (y0 : Int) (y1 : Int) (y2 : Int) (w : World) : Calls Tryz.prog 111 #[.agg #[.int .i64 y0, .int .i64 y1, .int .i64 y2]] w fun e w' => .returned (.agg #[.int .i64 y0, .int .i64 y1, .int .i64 y2]) = e ∧ Below w.heap.size w w' := by
  go_enter Tryz.func111, Tryz.ntmps111
  go_wp2
  exact bodyPost_ret (v := .agg #[.int .i64 y0, .int .i64 y1, .int .i64 y2]) (by simp [results, Tryz.results111, go_sem, ]) rfl ⟨rfl, (by repeat (first | exact Below.refl _ _ | assumption | apply alo | (apply Below.setCell; rotate_left; (first | assumption | exact Nat.le_refl _ | (simp only []; omega))) | apply Below.drew | apply belowDrewN | (refine thn ?_ (by assumption))))⟩

theorem eqOrder_any (y0 : Int) (y1 : Int) (y2 : Int) (w : World) : Calls Tryz.prog 121 #[.agg #[.int .i64 y0, .int .i64 y1, .int .i64 y2], .agg #[.int .i64 y0, .int .i64 y1, .int .i64 y2]] w fun e w' => .returned (.bool true) = e ∧ Below w.heap.size w w' := by
  go_enter Tryz.func121, Tryz.ntmps121
  go_wp2
  go_ret
  exact ⟨rfl, (by repeat (first | exact Below.refl _ _ | assumption | apply alo | (apply Below.setCell; rotate_left; (first | assumption | exact Nat.le_refl _ | (simp only []; omega))) | apply Below.drew | apply belowDrewN | (refine thn ?_ (by assumption))))⟩

set_option maxHeartbeats 1000000 in
theorem toOrderS_any (A : Option Addr) (n c : Nat) (xs : List (Int × Int × Int)) (hn : n ≤ 1048576) (w : World) (hs : Sl w 3 eO A n c xs) :
    Calls Tryz.prog 76 #[.slice A n c] w (Post (whole n) fun g w' => Blk w' g 87 (xs.flatMap eO).toArray ∧ w.heap.size ≤ g ∧ Below w.heap.size w w') := by
  have hle := hs.le
  have hmax := hs.max
  have hl := hs.len
  go_enter Tryz.func76, Tryz.ntmps76
  go_wp2_with (at_make; refine make_own rfl _ _ zeroOrd rfl encO w.heap.size _ _ n rfl rfl (by omega) (by omega) (by omega) (Nat.le_refl _) ?_; intro w1 own1 hg1; have hb1 := below_of_grown hg1; have U1 : Upto w1 w.heap.size 87 0 (xs.flatMap eO) := Upto.made (n := n) (c := n) encO own1 (by rw [List.length_replicate]; exact hl); clear own1 hg1)
  go_loopg [4] n (fun gg s4 wr => ∃ kk : Nat, kk ≤ n ∧ n - kk ≤ gg ∧ s4 = .int .i64 kk ∧ Aside (Below w.heap.size w wr) ∧ Aside (Upto wr w.heap.size 87 (kk * 3) (xs.flatMap eO)))
  case atStart => exact ⟨0, Nat.zero_le _, by omega, rfl, (show Aside _ from hb1), (show Aside _ from by rw [Nat.zero_mul]; exact U1)⟩
  case round =>
    obtain ⟨kk, hkk, hg, rfl, BW, UU⟩ := hrel
    clear hb1 U1
    have U1 := UU.out
    clear UU
    by_cases hlt : kk < n
    · have hltz : (kk : Int) < (n : Int) := by omega
      obtain ⟨b, o, rfl, y, hx, hc⟩ := hs.nth hlt BW.out
      have hc0 := hc 0 _ rfl
      have hc1 := hc 1 _ rfl
      have hc2 := hc 2 _ rfl
      have f0 := Lib.hid (flat_at encO hx 0 (kk * 3) _ rfl rfl)
      have f1 := Lib.hid (flat_at encO hx 1 (kk * 3 + 1) _ rfl rfl)
      have f2 := Lib.hid (flat_at encO hx 2 (kk * 3 + 2) _ rfl rfl)
      clear hc hx
      obtain ⟨y0, y1, y2⟩ := y
      have hq := fun W => toOrder_any y0 y1 y2 W
      simp only [eO, Nat.add_zero] at hc0 hc1 hc2 f0 f1 f2
      have hz := U1.lt
      go_wp2_with fail
      refine (hq _).mono ?_
      rintro e w2 ⟨rfl, hb2⟩
      replace U1 := U1.below hb2
      have hB2 := thn BW.out hb2
      have hfr := U1.frozen
      obtain ⟨v0, e0⟩ := U1.has f0.out
      obtain ⟨v1, e1⟩ := U1.has f1.out
      obtain ⟨v2, e2⟩ := U1.has f2.out
      clear hb2 hq
      go_wp2
      go_roundg (n - (kk + 1))
      case measure => omega
      case rel => exact ⟨kk + 1, by omega, by omega, by go_num, (show Aside _ from (Below.setCell (Below.setCell (Below.setCell hB2 (p := ⟨w.heap.size, _, none⟩) (Nat.le_refl _) _) (p := ⟨w.heap.size, _, none⟩) (Nat.le_refl _) _) (p := ⟨w.heap.size, _, none⟩) (Nat.le_refl _) _)), (show Aside _ from by have := (((U1.set f0.out).set f1.out).set f2.out); rw [show (kk + 1) * 3 = kk * 3 + 1 + 1 + 1 by omega]; exact this)⟩
    · have hltz : ¬ (kk : Int) < (n : Int) := by omega
      obtain rfl : kk = n := by omega
      go_wp2
      go_ret
      exact ⟨w.heap.size, rfl, U1.full (by rw [flatMap_len encO.len, hl]; omega), Nat.le_refl _, BW.out⟩

theorem eqOrderS_any (A A' : Option Addr) (n c c' : Nat) (xs : List (Int × Int × Int)) (w : World) (hs : Sl w 3 eO A n c xs) (hs' : Sl w 3 eO A' n c' xs) :
    Calls Tryz.prog 87 #[.slice A n c, .slice A' n c'] w fun e w' => .returned (.bool true) = e ∧ Below w.heap.size w w' := by
  have hle := hs.le
  have hmax := hs.max
  have hle' := hs'.le
  go_enter Tryz.func87, Tryz.ntmps87
  go_wp2
  go_loopg [5] n (fun gg s3 wr => ∃ kk : Nat, kk ≤ n ∧ n - kk ≤ gg ∧ s3 = .int .i64 kk ∧ Aside (Below w.heap.size w wr))
  case atStart => exact ⟨0, Nat.zero_le _, by omega, rfl, (show Aside _ from Below.refl _ _)⟩
  case round =>
    obtain ⟨kk, hkk, hg, rfl, BW⟩ := hrel
    by_cases hlt : kk < n
    · have hltz : (kk : Int) < (n : Int) := by omega
      obtain ⟨b, o, rfl, y, hx, hc⟩ := hs.nth hlt BW.out
      obtain ⟨b', o', rfl, y', hx', hc'⟩ := hs'.nth hlt BW.out
      obtain rfl : y = y' := by rw [hx'] at hx; injection hx with hx; exact hx.symm
      clear hx hx'
      have g0 := fun x : Near wr => (x.b.cell (p := ⟨b, o + kk * 3 + 0, none⟩) (World.block_lt_of_cell? _ _ (hc 0 _ rfl))).trans (hc 0 _ rfl)
      have p0 := fun x : Near wr => (x.b.cell (p := ⟨b', o' + kk * 3 + 0, none⟩) (World.block_lt_of_cell? _ _ (hc' 0 _ rfl))).trans (hc' 0 _ rfl)
      have g1 := fun x : Near wr => (x.b.cell (p := ⟨b, o + kk * 3 + 1, none⟩) (World.block_lt_of_cell? _ _ (hc 1 _ rfl))).trans (hc 1 _ rfl)
      have p1 := fun x : Near wr => (x.b.cell (p := ⟨b', o' + kk * 3 + 1, none⟩) (World.block_lt_of_cell? _ _ (hc' 1 _ rfl))).trans (hc' 1 _ rfl)
      have g2 := fun x : Near wr => (x.b.cell (p := ⟨b, o + kk * 3 + 2, none⟩) (World.block_lt_of_cell? _ _ (hc 2 _ rfl))).trans (hc 2 _ rfl)
      have p2 := fun x : Near wr => (x.b.cell (p := ⟨b', o' + kk * 3 + 2, none⟩) (World.block_lt_of_cell? _ _ (hc' 2 _ rfl))).trans (hc' 2 _ rfl)
      clear hc hc'
      obtain ⟨y0, y1, y2⟩ := y
      have hq := fun W => eqOrder_any y0 y1 y2 W
      simp only [eO, Nat.add_zero] at g0 p0 g1 p1 g2 p2
      skip
      go_wp2_with fail
      refine wp_region_near (by kernel_rfl) (by kernel_rfl) ?_; (repeat (go_big_quiet_step (first | (go_at_call 121; with_reducible exact near_call (hq _))))); refine wpQuiet_nil ?_; intro xN; have hbw2 := xN.b; generalize xN.W = w2 at hbw2 ⊢; clear xN
      clear g0 p0 g1 p1 g2 p2 hq
      go_wp2
      go_roundg (n - (kk + 1))
      case measure => omega
      case rel => exact ⟨kk + 1, by omega, by omega, by go_num, (show Aside _ from thn BW.out hbw2)⟩
    · have hltz : ¬ (kk : Int) < (n : Int) := by omega
      obtain rfl : kk = n := by omega
      go_wp2
      go_ret
      exact ⟨rfl, BW.out⟩
end Go.Proofs.YtckgdlgdipfgmaaGreat

namespace Go.Proofs.YtckgdlgdipfgmaaGreat
set_option linter.unusedVariables false
set_option linter.unusedSimpArgs false
open Go.RowKit

def szOfInt (n : Nat) (left : Int) : Int := if left - (n : Int) < 0 then -1 else left - n
theorem szOfInt_neg {n : Nat} (h : ¬ n ≤ 1048576) : szOfInt n 1048576 = -1 := by unfold szOfInt; rw [if_pos (by omega)]
theorem szOfInt_pos {n : Nat} (h : n ≤ 1048576) : szOfInt n 1048576 = 1048576 - n := by unfold szOfInt; rw [if_neg (by omega)]
theorem szIntS_any (A : Option Addr) (n c : Nat) (left : Int) (hl : 0 ≤ left ∧ left ≤ 1048576) (hn : n ≤ 9223372036854775807) (w : World) :
    Calls Tryz.prog 105 #[.slice A n c, .int .i64 left] w fun e w' => .returned (.int .i64 (szOfInt n left)) = e ∧ w = w' := by
  obtain ⟨h1, h2⟩ := hl
  unfold szOfInt
  by_cases h : left - (n : Int) < 0
  · rw [if_pos h]
    go_enter Tryz.func105, Tryz.ntmps105
    go_wp2
    go_ret
    exact ⟨rfl, rfl⟩
  · rw [if_neg h]
    go_enter Tryz.func105, Tryz.ntmps105
    go_wp2
    go_ret
    exact ⟨rfl, rfl⟩

set_option maxHeartbeats 1000000 in
theorem toIntS_any (A : Option Addr) (n c : Nat) (xs : List Int) (hn : n ≤ 1048576) (w : World) (hs : Sl w 1 eI A n c xs) :
    Calls Tryz.prog 112 #[.slice A n c] w (Post (whole n) fun g w' => Blk w' g 3 (xs.flatMap eI).toArray ∧ w.heap.size ≤ g ∧ Below w.heap.size w w') := by
  have hle := hs.le
  have hmax := hs.max
  have hl := hs.len
  go_enter Tryz.func112, Tryz.ntmps112
  go_wp2_with (at_make; refine make_own rfl _ _ zeroInt rfl encI w.heap.size _ _ n rfl rfl (by omega) (by omega) (by omega) (Nat.le_refl _) ?_; intro w1 own1 hg1; have hb1 := below_of_grown hg1; have U1 : Upto w1 w.heap.size 3 0 (xs.flatMap eI) := Upto.made (n := n) (c := n) encI own1 (by rw [List.length_replicate]; exact hl); clear own1 hg1)
  go_loopg [4] n (fun gg s4 wr => ∃ kk : Nat, kk ≤ n ∧ n - kk ≤ gg ∧ s4 = .int .i64 kk ∧ Aside (Below w.heap.size w wr) ∧ Aside (Upto wr w.heap.size 3 kk (xs.flatMap eI)))
  case atStart => exact ⟨0, Nat.zero_le _, by omega, rfl, (show Aside _ from hb1), (show Aside _ from U1)⟩
  case round =>
    obtain ⟨kk, hkk, hg, rfl, BW, UU⟩ := hrel
    clear hb1 U1
    have U1 := UU.out
    clear UU
    by_cases hlt : kk < n
    · have hltz : (kk : Int) < (n : Int) := by omega
      obtain ⟨b, o, rfl, y, hx, hc⟩ := hs.nth hlt BW.out
      have hc0 := hc 0 _ rfl
      have f0 := Lib.hid (flat_at encI hx 0 (kk * 1) _ rfl rfl)
      clear hc hx
      simp only [eI, Nat.add_zero, Nat.mul_one] at hc0 f0
      have hz := U1.lt
      have hfr := U1.frozen
      obtain ⟨v0, e0⟩ := U1.has f0.out
      go_wp2
      go_roundg (n - (kk + 1))
      case measure => omega
      case rel => exact ⟨kk + 1, by omega, by omega, by go_num, (show Aside _ from Below.setCell BW.out (p := ⟨w.heap.size, _, none⟩) (Nat.le_refl _) _), (show Aside _ from U1.set f0.out)⟩
    · have hltz : ¬ (kk : Int) < (n : Int) := by omega
      obtain rfl : kk = n := by omega
      go_wp2
      go_ret
      exact ⟨w.heap.size, rfl, U1.full (by rw [flatMap_len encI.len, hl]; omega), Nat.le_refl _, BW.out⟩

theorem eqIntS_any (A A' : Option Addr) (n c c' : Nat) (xs : List Int) (w : World) (hs : Sl w 1 eI A n c xs) (hs' : Sl w 1 eI A' n c' xs) :
    Calls Tryz.prog 16 #[.slice A n c, .slice A' n c'] w fun e w' => .returned (.bool true) = e ∧ Below w.heap.size w w' := by
  have hle := hs.le
  have hmax := hs.max
  have hle' := hs'.le
  go_enter Tryz.func16, Tryz.ntmps16
  go_wp2
  go_loopg [5] n (fun gg s3 wr => ∃ kk : Nat, kk ≤ n ∧ n - kk ≤ gg ∧ s3 = .int .i64 kk ∧ Aside (Below w.heap.size w wr))
  case atStart => exact ⟨0, Nat.zero_le _, by omega, rfl, (show Aside _ from Below.refl _ _)⟩
  case round =>
    obtain ⟨kk, hkk, hg, rfl, BW⟩ := hrel
    by_cases hlt : kk < n
    · have hltz : (kk : Int) < (n : Int) := by omega
      obtain ⟨b, o, rfl, y, hx, hc⟩ := hs.nth hlt BW.out
      obtain ⟨b', o', rfl, y', hx', hc'⟩ := hs'.nth hlt BW.out
      obtain rfl : y = y' := by rw [hx'] at hx; injection hx with hx; exact hx.symm
      clear hx hx'
      have g0 := hc 0 _ rfl
      have p0 := hc' 0 _ rfl
      clear hc hc'
      simp only [eI, Nat.add_zero, Nat.mul_one] at g0 p0
      go_wp2_with fail
      go_quiet (fail)
      go_wp2
      go_roundg (n - (kk + 1))
      case measure => omega
      case rel => exact ⟨kk + 1, by omega, by omega, by go_num, (show Aside _ from (by have hBW := BW.out; repeat (first | exact Below.refl _ _ | assumption | apply alo | (apply Below.setCell; rotate_left; (first | assumption | exact Nat.le_refl _ | (simp only []; omega))) | apply Below.drew | apply belowDrewN | (refine thn ?_ (by assumption)))))⟩
    · have hltz : ¬ (kk : Int) < (n : Int) := by omega
      obtain rfl : kk = n := by omega
      go_wp2
      go_ret
      exact ⟨rfl, BW.out⟩
end Go.Proofs.YtckgdlgdipfgmaaGreat

namespace Go.Proofs.YtckgdlgdipfgmaaGreat
set_option linter.unusedVariables false
set_option linter.unusedSimpArgs false
open Go.RowKit

theorem Own.low {α : Type} {w : World} {base base' E k : Nat} {enc : α → List Value} {v : Value} {xs : List α} (h : Own w base E k enc v xs) (hb : base' ≤ base) : Own w base' E k enc v xs :=
  ⟨h.1, h.2.elim .inl fun ⟨g, cap, cur, a, b, c⟩ => .inr ⟨g, cap, cur, a, Nat.le_trans hb b, c⟩⟩
theorem Own.neBlk {α : Type} {w : World} {base E k g t : Nat} {cs : Array Value} {enc : α → List Value} {v : Value} {xs : List α} (h : Own w base E k enc v xs) (hB : Blk w g t cs) (ht : t ≠ E) : v.ownBlock ≠ some g := by
  rcases h.2 with ⟨rfl, _⟩ | ⟨g', cap, cur, rfl, hb, hg, _⟩
  · intro e; cases e
  · intro e
    have e' : g' = g := by injection e
    subst e'
    have h2 := hB
    unfold Blk at h2
    rw [hg] at h2
    injection h2 with h2
    injection h2 with _ h3 _
    exact ht h3.symm
theorem Own.farNe {α : Type} {w : World} {base E k : Nat} {enc : α → List Value} {v : Value} {xs : List α} (h : Own w base E k enc v xs) {p : Addr} (hp : v.ownBlock ≠ some p.block) (u : Value) : Own (w.setCell p u) base E k enc v xs :=
  h.kept (row := some p.block) (grown_setCell (World.grownBy.refl _ _) (.inl rfl) u) (.inr hp)
theorem Blk.appO {w w' : World} {v : Value} {g : Nat} {t : TypeId} {cs : Array Value} (h : Blk w g t cs) (hg : w.grownBy w' v.ownBlock) (hne : v.ownBlock ≠ some g) : Blk w' g t cs := (hg.block g h.lt (fun e => hne e.symm)).trans h
theorem Below.app2 {B : Nat} {a w w' : World} {v : Value} (hB : Below B a w) (hg : w.grownBy w' v.ownBlock) (hv : ∀ g, v.ownBlock = some g → B ≤ g) (ha : B ≤ w.heap.size) : Below B a w' :=
  hB.trans ⟨hg.os, hg.tape, hg.output, hg.size, fun i hi => hg.block i (by omega) (fun e => by have := hv i e.symm; omega)⟩
theorem Own.ne2 {α β : Type} {w : World} {b1 b2 E1 E2 k1 k2 : Nat} {enc1 : α → List Value} {enc2 : β → List Value} {v1 v2 : Value} {xs : List α} {ys : List β} (h1 : Own w b1 E1 k1 enc1 v1 xs) (h2 : Own w b2 E2 k2 enc2 v2 ys) (hE : E1 ≠ E2) : v1.ownBlock = none ∨ v1.ownBlock ≠ v2.ownBlock := by
  rcases h1.2 with ⟨rfl, _⟩ | ⟨g, cap, cur, rfl, hb, hg, _⟩
  · exact .inl rfl
  · refine .inr fun e => ?_
    exact h2.neBlk (g := g) (t := E1) (cs := cur) hg hE e.symm
end Go.Proofs.YtckgdlgdipfgmaaGreat

namespace Go.Proofs.YtckgdlgdipfgmaaGreat
set_option linter.unusedVariables false
set_option linter.unusedSimpArgs false
open Go.RowKit

/-- A slice of the call's own whose cells may be written. -/
structure WS {α : Type} (w : World) (base E k : Nat) (enc : α → List Value) (s : SV α) : Prop where
  ok : SV.ok w base k enc s
  wr : 0 < s.n → ∃ g o cs, s.A = some ⟨g, o, none⟩ ∧ Blk w g E cs ∧ o + s.n * k ≤ cs.size
section
variable {α : Type} {w w' : World} {base base' E k : Nat} {enc : α → List Value} {s : SV α}
theorem WS.below (h : WS w base E k enc s) (hb : Below w.heap.size w w') : WS w' base E k enc s :=
  ⟨⟨h.ok.sl.below hb, h.ok.fresh, h.ok.nil, h.ok.spot⟩, fun hn => by
    obtain ⟨g, o, cs, e, B, hc⟩ := h.wr hn
    exact ⟨g, o, cs, e, B.below hb, hc⟩⟩
theorem WS.mono (h : WS w base E k enc s) (hb : base' ≤ base) : WS w base' E k enc s := ⟨h.ok.mono hb, h.wr⟩
theorem WS.set (h : WS w base E k enc s) {g i : Nat} (hg : g < base) (u : Value) : WS (w.setCell ⟨g, i, none⟩ u) base E k enc s :=
  ⟨⟨h.ok.sl.keep (by simp [World.setCell]) (fun b o e => Below.heap_setCell _ _ _ _ (by have := h.ok.fresh b o e; simp only []; omega)), h.ok.fresh, h.ok.nil, h.ok.spot⟩, fun hn => by
    obtain ⟨b, o, cs, e, B, hc⟩ := h.wr hn
    exact ⟨b, o, cs, e, B.far (by have := h.ok.fresh b o e; simp only []; omega) _, hc⟩⟩
theorem WS.nilS : WS w base E k enc ⟨none, 0, 0, ([] : List α)⟩ := ⟨⟨⟨rfl, Nat.le_refl _, by simp, fun h => absurd h (Nat.lt_irrefl _)⟩, (fun b o e => by cases e), (fun _ => rfl), (fun _ e => by cases e)⟩, fun h => absurd h (Nat.lt_irrefl _)⟩
theorem Own.ws {n c c' : Nat} {A : Option Addr} {xs : List α} (hk : Enc enc k) (h : Own w base E k enc (.slice A n c) xs) (hc : n ≤ c' ∧ c' ≤ c) : WS w base E k enc ⟨A, n, c', xs⟩ := by
  have hok := h.okv hk
  refine ⟨⟨⟨hok.sl.len, hc.1, Nat.le_trans hc.2 hok.sl.max, hok.sl.cells⟩, hok.fresh, fun e => ?_, hok.spot⟩, fun hn => ?_⟩
  · have := hok.nil e
    simp only [] at this ⊢
    omega
  · rcases h.2 with ⟨h1, h2⟩ | ⟨g, cap, cur, h1, hb, hg, hnc, hm, hs, ht⟩
    · injection h1 with _ h3 _
      subst h3
      exact absurd hn (Nat.lt_irrefl _)
    · injection h1 with h3 h4 h5
      subst h3 h5
      refine ⟨g, 0, cur, rfl, hg, ?_⟩
      rw [hs, Nat.zero_add]
      exact Nat.mul_le_mul_right _ (by have := hok.sl.le; simp only [] at this ⊢; omega)
theorem WS.of_blk {g : Nat} {xs : List α} (h : Blk w g E (xs.flatMap enc).toArray) (hb : base ≤ g) (hk : Enc enc k) (hm : xs.length ≤ 9223372036854775807) : WS w base E k enc ⟨some ⟨g, 0, none⟩, xs.length, xs.length, xs⟩ :=
  ⟨⟨Sl.of_blk h hk hm, (fun b o e => by injection e with e; injection e with e1 _; omega), (fun e => by cases e), (fun ad e => by injection e with e; rw [← e])⟩, fun _ => ⟨g, 0, _, rfl, h, by simp [flatMap_len hk.len]⟩⟩
/-- The block of a slice. -/
def SV.row (s : SV α) : Option Nat := if 0 < s.n then s.A.map (·.block) else none
/-- It is no block of another type. -/
theorem WS.rowNe {g t : Nat} {cs : Array Value} (h : WS w base E k enc s) (hB : Blk w g t cs) (ht : t ≠ E) : s.row ≠ some g := by
  unfold SV.row
  split
  · rename_i hn
    obtain ⟨b, o, cur, e, B, hc⟩ := h.wr hn
    rw [e]
    intro e'
    have e2 : b = g := by injection e'
    subst e2
    unfold Blk at B hB
    rw [B] at hB
    injection hB with hB
    injection hB with _ h3 _
    exact ht h3.symm
  · intro e; cases e
theorem WS.rowGe {g : Nat} (h : WS w base E k enc s) (e : s.row = some g) : base ≤ g ∧ g < w.heap.size := by
  unfold SV.row at e
  split at e
  · rename_i hn
    obtain ⟨b, o, cur, e2, B, hc⟩ := h.wr hn
    rw [e2] at e
    have e3 : b = g := by injection e
    subst e3
    exact ⟨h.ok.fresh b o e2, B.lt⟩
  · cases e
/-- A slice in another block is not touched by what turns one block alone. -/
theorem Sl.other {A : Option Addr} {n c : Nat} {xs : List α} {row : Option Nat} (h : Sl w k enc A n c xs) (hg : w.grownBy w' row) (hne : ∀ b o, A = some ⟨b, o, none⟩ → row ≠ some b) : Sl w' k enc A n c xs :=
  ⟨h.len, h.le, h.max, fun hn => by
    obtain ⟨b, o, rfl, hb, hc⟩ := h.cells hn
    exact ⟨b, o, rfl, Nat.lt_of_lt_of_le hb hg.size, fun j x hx i u hu => (World.cell?_of_block (w := w) (hg.block b hb (fun e => hne b o rfl e.symm))).trans (hc j x hx i u hu)⟩⟩
theorem WS.other {row : Option Nat} (h : WS w base E k enc s) (hg : w.grownBy w' row) (hne : ∀ b o, s.A = some ⟨b, o, none⟩ → row ≠ some b) : WS w' base E k enc s :=
  ⟨⟨h.ok.sl.other hg hne, h.ok.fresh, h.ok.nil, h.ok.spot⟩, fun hn => by
    obtain ⟨g, o, cs, e, B, hc⟩ := h.wr hn
    exact ⟨g, o, cs, e, (hg.block g B.lt (fun e' => hne g o e e'.symm)).trans B, hc⟩⟩
theorem Blk.other {g t : Nat} {cs : Array Value} {row : Option Nat} (h : Blk w g t cs) (hg : w.grownBy w' row) (hne : row ≠ some g) : Blk w' g t cs := (hg.block g h.lt (fun e => hne e.symm)).trans h
theorem Below.other {B : Nat} {a : World} {row : Option Nat} (h : Below B a w) (hg : w.grownBy w' row) (hr : ∀ g, row = some g → B ≤ g) (hB : B ≤ w.heap.size) : Below B a w' :=
  h.trans ⟨hg.os, hg.tape, hg.output, hg.size, fun i hi => hg.block i (by omega) (fun e => by have := hr i e.symm; omega)⟩
end
/-- Marks: numbers that go on. -/
def marksI (k : Int) (n : Nat) : List Int := (List.range n).map fun (j : Nat) => k + (j : Int)
def marksS (k : Int) (n : Nat) : List (Int × Int) := (List.range n).map fun (j : Nat) => (k + 2 * (j : Int), k + 2 * (j : Int) + 1)
theorem marksI_at {k : Int} {n j : Nat} {x : Int} (h : (marksI k n)[j]? = some x) : j < n ∧ x = k + (j : Int) := by
  unfold marksI at h
  rw [List.getElem?_map] at h
  by_cases hj : j < n
  · rw [List.getElem?_range hj] at h
    simp at h
    exact ⟨hj, h.symm⟩
  · rw [List.getElem?_eq_none (by simp; omega)] at h
    cases h
theorem marksS_at {k : Int} {n j : Nat} {x : Int × Int} (h : (marksS k n)[j]? = some x) : j < n ∧ x = (k + 2 * (j : Int), k + 2 * (j : Int) + 1) := by
  unfold marksS at h
  rw [List.getElem?_map] at h
  by_cases hj : j < n
  · rw [List.getElem?_range hj] at h
    simp at h
    exact ⟨hj, h.symm⟩
  · rw [List.getElem?_eq_none (by simp; omega)] at h
    cases h

set_option maxHeartbeats 1000000 in
theorem markIntS_any (s : SV Int) (k : Int) (base : Nat) (hk : 0 ≤ k ∧ k ≤ 10000000) (hn : s.n ≤ 10000000) (w : World) (hs : WS w base 3 1 eI s) :
    Calls Tryz.prog 18 #[s.v, .int .i64 k] w fun e w' => .returned (.int .i64 (k + s.n)) = e ∧ w.grownBy w' s.row ∧ WS w' base 3 1 eI ⟨s.A, s.n, s.c, marksI k s.n⟩ := by
  obtain ⟨A, n, c, xs⟩ := s
  obtain ⟨hok, hwr⟩ := hs
  simp only [SV.v, SV.row] at hn hwr ⊢
  have hle := hok.sl.le
  have hmax := hok.sl.max
  by_cases hn0 : 0 < n
  · rw [if_pos hn0]
    obtain ⟨g, o, cs, rfl, B, hc⟩ := hwr hn0
    simp only [] at hle hmax
    go_enter Tryz.func18, Tryz.ntmps18
    go_wp2
    go_loopg [1, 5] n (fun gg s1 s5 wr => ∃ (kk : Nat) (cs' : Array Value), kk ≤ n ∧ n - kk ≤ gg ∧ s1 = .int .i64 (k + kk) ∧ s5 = .int .i64 kk ∧ Aside (w.grownBy wr (some g)) ∧ Aside (Blk wr g 3 cs') ∧ cs'.size = cs.size ∧ Aside (∀ j : Nat, j < kk → cs'[o + j]? = some (.int .i64 (k + j))))
    case atStart => exact ⟨0, cs, Nat.zero_le _, by omega, by simp, rfl, (show Aside _ from World.grownBy.refl _ _), (show Aside _ from B), rfl, (show Aside _ from fun j hj => absurd hj (Nat.not_lt_zero _))⟩
    case round =>
      obtain ⟨kk, cs', hkk, hg, rfl, rfl, GG, BB, hsz, MM⟩ := hrel
      by_cases hlt : kk < n
      · have hltz : (kk : Int) < (n : Int) := by omega
        have hb : o + kk < cs'.size := by omega
        have hcell : wr.cell? ⟨g, o + kk, none⟩ = some cs'[o + kk] := (BB.out.cell (o + kk)).trans (Array.getElem?_eq_getElem hb)
        have hfr := BB.out.frozen
        go_wp2
        go_roundg (n - (kk + 1))
        case measure => omega
        case rel => exact ⟨kk + 1, _, by omega, by omega, by go_num, by go_num, (show Aside _ from grown_setCell GG.out (.inl rfl) _), (show Aside _ from BB.out.set_ (o + kk) _), by simpa using hsz, (show Aside _ from fun j hj => by
          by_cases e : j = kk
          · subst e
            rw [Array.getElem?_setIfInBounds_self_of_lt hb]
          · rw [Array.getElem?_setIfInBounds_ne (by omega)]
            exact MM.out j (by omega))⟩
      · have hltz : ¬ (kk : Int) < (n : Int) := by omega
        obtain rfl : kk = n := by omega
        go_wp2
        go_ret
        refine ⟨rfl, GG.out, ⟨⟨⟨by simp [marksI], hle, hmax, fun _ => ⟨g, o, rfl, BB.out.lt, fun j x hx i u hu => ?_⟩⟩, hok.fresh, hok.nil, hok.spot⟩, fun _ => ⟨g, o, cs', rfl, BB.out, by simp only [] at hc ⊢; omega⟩⟩⟩
        obtain ⟨hj, rfl⟩ := marksI_at hx
        have hi : i = 0 := by
          have := (List.getElem?_eq_some_iff.1 hu).1
          simp [eI] at this
          omega
        subst hi
        injection hu with hu
        subst hu
        rw [BB.out.cell, Nat.mul_one, Nat.add_zero]
        exact MM.out j hj
  · obtain rfl : n = 0 := by omega
    rw [if_neg hn0]
    go_enter Tryz.func18, Tryz.ntmps18
    go_wp2
    go_loopg [1, 5] 0 (fun gg s1 s5 wr => ∃ kk : Nat, kk ≤ 0 ∧ s1 = .int .i64 k ∧ s5 = .int .i64 kk ∧ Aside (w = wr))
    case atStart => exact ⟨0, Nat.le_refl _, rfl, rfl, (show Aside _ from rfl)⟩
    case round =>
      obtain ⟨kk, hkk, rfl, rfl, BW⟩ := hrel
      obtain rfl : kk = 0 := by omega
      go_wp2
      go_ret
      rw [← BW.out]
      exact ⟨by simp, World.grownBy.refl _ _, ⟨⟨⟨rfl, hle, hmax, fun h => absurd h (Nat.lt_irrefl _)⟩, hok.fresh, hok.nil, hok.spot⟩, fun h => absurd h (Nat.lt_irrefl _)⟩⟩
theorem heldIntS_any (A : Option Addr) (n c : Nat) (k : Int) (hk : 0 ≤ k ∧ k ≤ 10000000) (hn : n ≤ 10000000) (w : World) (hs : Sl w 1 eI A n c (marksI k n)) :
    Calls Tryz.prog 19 #[.slice A n c, .int .i64 k] w fun e w' => .returned (.int .i64 (k + n)) = e ∧ Below w.heap.size w w' := by
  have hle := hs.le
  have hmax := hs.max
  go_enter Tryz.func19, Tryz.ntmps19
  go_wp2
  go_loopg [1, 5] n (fun gg s1 s5 wr => ∃ kk : Nat, kk ≤ n ∧ n - kk ≤ gg ∧ s1 = .int .i64 (k + kk) ∧ s5 = .int .i64 kk ∧ Aside (Below w.heap.size w wr))
  case atStart => exact ⟨0, Nat.zero_le _, by omega, by simp, rfl, (show Aside _ from Below.refl _ _)⟩
  case round =>
    obtain ⟨kk, hkk, hg, rfl, rfl, BW⟩ := hrel
    by_cases hlt : kk < n
    · have hltz : (kk : Int) < (n : Int) := by omega
      obtain ⟨b, o, rfl, y, hx, hc⟩ := hs.nth hlt BW.out
      obtain ⟨-, rfl⟩ := marksI_at hx
      have hc0 := hc 0 _ rfl
      simp only [eI, Nat.add_zero, Nat.mul_one] at hc0
      clear hc hx
      go_wp2
      go_roundg (n - (kk + 1))
      case measure => omega
      case rel => exact ⟨kk + 1, by omega, by omega, by go_num, by go_num, (show Aside _ from BW.out)⟩
    · have hltz : ¬ (kk : Int) < (n : Int) := by omega
      obtain rfl : kk = n := by omega
      go_wp2
      go_ret
      exact ⟨rfl, BW.out⟩
end Go.Proofs.YtckgdlgdipfgmaaGreat

namespace Go.Proofs.YtckgdlgdipfgmaaGreat
set_option linter.unusedVariables false
set_option linter.unusedSimpArgs false
open Go.RowKit

theorem szHold_any (A : Option Addr) (n c : Nat) (left : Int) (hl : 0 ≤ left ∧ left ≤ 1048576) (hn : n ≤ 9223372036854775807) (w : World) :
    Calls Tryz.prog 67 #[.agg #[.slice A n c], .int .i64 left] w fun e w' => .returned (.int .i64 (szOfInt n left)) = e ∧ Below w.heap.size w w' := by
  have hq := fun W => szIntS_any A n c left hl hn W
  have hv : szOfInt n left = -1 ∨ 0 ≤ szOfInt n left := by unfold szOfInt; split <;> omega
  obtain ⟨h1, h2⟩ := hl
  generalize szOfInt n left = v at *
  rcases hv with rfl | hv
  · go_enter Tryz.func67, Tryz.ntmps67
    go_wp2_with fail; refine (hq _).mono ?_; rintro e w' ⟨rfl, rfl⟩
    go_wp2
    go_ret
    exact ⟨rfl, (by repeat (first | exact Below.refl _ _ | assumption | apply alo | (apply Below.setCell; rotate_left; (first | assumption | exact Nat.le_refl _ | (simp only []; omega))) | apply Below.drew | apply belowDrewN | (refine thn ?_ (by assumption))))⟩
  · go_enter Tryz.func67, Tryz.ntmps67
    go_wp2_with fail; refine (hq _).mono ?_; rintro e w' ⟨rfl, rfl⟩
    go_wp2
    go_ret
    exact ⟨rfl, (by repeat (first | exact Below.refl _ _ | assumption | apply alo | (apply Below.setCell; rotate_left; (first | assumption | exact Nat.le_refl _ | (simp only []; omega))) | apply Below.drew | apply belowDrewN | (refine thn ?_ (by assumption))))⟩

set_option maxHeartbeats 1000000 in
theorem toHold_any (A : Option Addr) (n c : Nat) (xs : List Int) (hn : n ≤ 1048576) (w : World) (hs : Sl w 1 eI A n c xs) :
    Calls Tryz.prog 78 #[.agg #[.slice A n c]] w (Post (fun g => .agg #[.slice (some ⟨g, 0, none⟩) n n]) fun g w' => Blk w' g 3 (xs.flatMap eI).toArray ∧ w.heap.size ≤ g ∧ Below w.heap.size w w') := by
  have hq := fun W hW => toIntS_any A n c xs hn W (hs.below hW)
  have hb0 := alo (alo (alo (Below.refl w.heap.size w) (.cells #[.slice A n c] 113)) (.cells #[.slice none 0 0] 80)) (.cells #[.slice none 0 0] 80)
  have B0 := ((Blk.new w 113 #[.slice A n c]).alloc (.cells #[.slice none 0 0] 80)).alloc (.cells #[.slice none 0 0] 80)
  have B1 := (Blk.new2 w (.cells #[.slice A n c] 113) 80 #[.slice none 0 0]).alloc (.cells #[.slice none 0 0] 80)
  have B2 := Blk.new3 w (.cells #[.slice A n c] 113) (.cells #[.slice none 0 0] 80) 80 #[.slice none 0 0]
  skip
  skip
  have cB0_0 := B0.c0; have fB0 := B0.frozen; have cB1_0 := B1.c0; have fB1 := B1.frozen; have cB2_0 := B2.c0; have fB2 := B2.frozen
  go_enter Tryz.func78, Tryz.ntmps78
  go_wp2_with fail
  refine (hq _ hb0).mono ?_
  rintro e w1 ⟨g, rfl, Bg, lg, hbw1⟩
  have hb1 := thn hb0 hbw1
  clear cB0_0 fB0 cB1_0 fB1 cB2_0 fB2
  replace B0 := B0.below hbw1
  replace B1 := B1.below hbw1
  replace B2 := B2.below hbw1
  simp only [whole]
  have cB0_0 := B0.c0; have fB0 := B0.frozen; have cB1_0 := B1.c0; have fB1 := B1.frozen; have cB2_0 := B2.c0; have fB2 := B2.frozen
  have hlg : w.heap.size + 1 + 1 < g := by have := lg; simp at this; omega
  clear hbw1 lg hb0
  go_wp2
  exact bodyPost_ret (v := .agg #[.slice (some ⟨g, 0, none⟩) n n]) (by simp [results, Tryz.results78, go_sem, cB1_0, cB2_0]) rfl ⟨g, rfl, (Bg.far (p := ⟨w.heap.size + 1 + 1, 0, none⟩) (by simp only []; omega) _).far (p := ⟨w.heap.size + 1, 0, none⟩) (by simp only []; omega) _, by omega, (hb1.setCell (p := ⟨w.heap.size + 1 + 1, 0, none⟩) (by simp only []; omega) _).setCell (p := ⟨w.heap.size + 1, 0, none⟩) (by simp only []; omega) _⟩

theorem eqHold_any (A A' : Option Addr) (n c c' : Nat) (xs : List Int) (w : World) (hs : Sl w 1 eI A n c xs) (hs' : Sl w 1 eI A' n c' xs) :
    Calls Tryz.prog 89 #[.agg #[.slice A n c], .agg #[.slice A' n c']] w fun e w' => .returned (.bool true) = e ∧ Below w.heap.size w w' := by
  have hb0 := alo (alo (Below.refl w.heap.size w) (.cells #[.slice A n c] 80)) (.cells #[.slice A' n c'] 80)
  have hq := eqIntS_any A A' n c c' xs _ (hs.below hb0) (hs'.below hb0)
  clear hs hs'
  go_enter Tryz.func89, Tryz.ntmps89
  go_wp2_with fail
  refine hq.mono ?_
  rintro e w1 ⟨rfl, hb1⟩
  go_wp2
  go_ret
  exact ⟨rfl, thn hb0 hb1⟩
end Go.Proofs.YtckgdlgdipfgmaaGreat

namespace Go.Proofs.YtckgdlgdipfgmaaGreat
set_option linter.unusedVariables false
set_option linter.unusedSimpArgs false
open Go.RowKit

theorem szPart_any (x : PartV) (left : Int) (hl : 0 ≤ left ∧ left ≤ 1048576) (hn : x.1.n ≤ 9223372036854775807) (w : World) :
    Calls Tryz.prog 104 #[.agg (eP x).toArray, .int .i64 left] w (Post (fun m : Int => .int .i64 m) fun m w' => (-1 ≤ m ∧ m ≤ left) ∧ (0 ≤ m → smP x) ∧ Below w.heap.size w w') := by
  have hq := fun W => szWindowS_any x.1.A x.1.n x.1.c left hl hn W
  have hv : szOf x.1.n left = -1 ∨ (0 ≤ szOf x.1.n left ∧ szOf x.1.n left ≤ left ∧ x.1.n ≤ 1048576) := by unfold szOf; split <;> omega
  have hsm : x.1.n ≤ 1048576 → smP x := fun h => h
  generalize szOf x.1.n left = v at *
  obtain ⟨⟨A, n, c, xs⟩, m0⟩ := x
  simp only [eP, SV.v] at *
  rcases hv with rfl | ⟨hv, hv1, hv2⟩
  · go_enter Tryz.func104, Tryz.ntmps104
    go_wp2_with fail; refine (hq _).mono ?_; rintro e w' ⟨rfl, rfl⟩
    go_wp2
    go_ret
    exact ⟨-1, rfl, ⟨by omega, by omega⟩, (fun h => absurd h (by omega)), (by repeat (first | exact Below.refl _ _ | assumption | apply alo | (apply Below.setCell; rotate_left; (first | assumption | exact Nat.le_refl _ | (simp only []; omega))) | apply Below.drew | apply belowDrewN | (refine thn ?_ (by assumption))))⟩
  · have hr := hsm hv2
    clear hsm
    go_enter Tryz.func104, Tryz.ntmps104
    go_wp2_with fail; refine (hq _).mono ?_; rintro e w' ⟨rfl, rfl⟩
    go_wp2
    go_ret
    exact ⟨v, rfl, ⟨by omega, hv1⟩, (fun _ => hr), (by repeat (first | exact Below.refl _ _ | assumption | apply alo | (apply Below.setCell; rotate_left; (first | assumption | exact Nat.le_refl _ | (simp only []; omega))) | apply Below.drew | apply belowDrewN | (refine thn ?_ (by assumption))))⟩
theorem szCore_any (x : CoreT) (left : Int) (hl : 0 ≤ left ∧ left ≤ 1048576) (hn : x.1.n ≤ 9223372036854775807) (w : World) :
    Calls Tryz.prog 66 #[.agg (eCo x).toArray, .int .i64 left] w (Post (fun m : Int => .int .i64 m) fun m w' => (-1 ≤ m ∧ m ≤ left) ∧ (0 ≤ m → smC x) ∧ Below w.heap.size w w') := by
  have hq := fun W => szIntS_any x.1.A x.1.n x.1.c left hl hn W
  have hv : szOfInt x.1.n left = -1 ∨ (0 ≤ szOfInt x.1.n left ∧ szOfInt x.1.n left ≤ left ∧ x.1.n ≤ 1048576) := by unfold szOfInt; split <;> omega
  have hsm : x.1.n ≤ 1048576 → smC x := fun h => h
  generalize szOfInt x.1.n left = v at *
  obtain ⟨⟨A, n, c, xs⟩, m0, s0⟩ := x
  simp only [eCo, SV.v] at *
  rcases hv with rfl | ⟨hv, hv1, hv2⟩
  · go_enter Tryz.func66, Tryz.ntmps66
    go_wp2_with fail; refine (hq _).mono ?_; rintro e w' ⟨rfl, rfl⟩
    go_wp2
    go_ret
    exact ⟨-1, rfl, ⟨by omega, by omega⟩, (fun h => absurd h (by omega)), (by repeat (first | exact Below.refl _ _ | assumption | apply alo | (apply Below.setCell; rotate_left; (first | assumption | exact Nat.le_refl _ | (simp only []; omega))) | apply Below.drew | apply belowDrewN | (refine thn ?_ (by assumption))))⟩
  · have hr := hsm hv2
    clear hsm
    go_enter Tryz.func66, Tryz.ntmps66
    go_wp2_with fail; refine (hq _).mono ?_; rintro e w' ⟨rfl, rfl⟩
    go_wp2
    go_ret
    exact ⟨v, rfl, ⟨by omega, hv1⟩, (fun _ => hr), (by repeat (first | exact Below.refl _ _ | assumption | apply alo | (apply Below.setCell; rotate_left; (first | assumption | exact Nat.le_refl _ | (simp only []; omega))) | apply Below.drew | apply belowDrewN | (refine thn ?_ (by assumption))))⟩
theorem szHoldE_any (x : HoldR) (left : Int) (hl : 0 ≤ left ∧ left ≤ 1048576) (hn : x.n ≤ 9223372036854775807) (w : World) :
    Calls Tryz.prog 67 #[.agg (eHr x).toArray, .int .i64 left] w (Post (fun m : Int => .int .i64 m) fun m w' => (-1 ≤ m ∧ m ≤ left) ∧ (0 ≤ m → smH x) ∧ Below w.heap.size w w') :=
  (szHold_any x.A x.n x.c left hl hn w).mono fun e w' ⟨a, b⟩ => ⟨szOfInt x.n left, a.symm, by unfold szOfInt; split <;> omega, fun h => by unfold szOfInt at h; unfold smH; split at h <;> omega, b⟩
theorem szOrderE_any (x : OrdL) (left : Int) (hl : 0 ≤ left ∧ left ≤ 1048576) (hn : x.n ≤ 9223372036854775807) (w : World) :
    Calls Tryz.prog 65 #[x.v, .int .i64 left] w (Post (fun m : Int => .int .i64 m) fun m w' => (-1 ≤ m ∧ m ≤ left) ∧ (0 ≤ m → smO x) ∧ Below w.heap.size w w') :=
  (szOrderS_any x.A x.n x.c left hl hn w).mono fun e w' ⟨a, b⟩ => ⟨szOfOrder x.n left, a.symm, by unfold szOfOrder; split <;> omega, fun h => by unfold szOfOrder at h; unfold smO; split at h <;> omega, b ▸ Below.refl _ _⟩
theorem fresh_sl {α : Type} {w : World} {g k E n : Nat} {enc : α → List Value} {xs : List α} (hk : Enc enc k) (h : Blk w g E (xs.flatMap enc).toArray) (hn : xs.length = n) (hm : n ≤ 1048576) : Sl w k enc (some ⟨g, 0, none⟩) n n xs := by
  subst hn
  exact Sl.of_blk h hk (by omega)
set_option maxHeartbeats 1000000 in
theorem toPart_any (x : PartV) (hn : smP x) (w : World) (hs : okP w x) :
    Calls Tryz.prog 108 #[.agg (eP x).toArray] w (Post (fun x' : PartV => .agg (eP x').toArray) fun x' w' => liP w' w.heap.size x' ∧ cP x' = cP x ∧ Below w.heap.size w w') := by
  obtain ⟨⟨A, n, c, xs⟩, m⟩ := x
  simp only [eP, okP, smP, SV.v] at *
  have hq := fun W hW => toWindowS_any A n c xs hn W (hs.below hW)
  have hb0 := alo (alo (alo (Below.refl w.heap.size w) (.cells #[.slice A n c, .int .i64 m] 157)) (.cells #[.slice none 0 0, .int .i64 0] 118)) (.cells #[.slice none 0 0, .int .i64 0] 118)
  have B0 := ((Blk.new w 157 #[.slice A n c, .int .i64 m]).alloc (.cells #[.slice none 0 0, .int .i64 0] 118)).alloc (.cells #[.slice none 0 0, .int .i64 0] 118)
  have B1 := (Blk.new2 w (.cells #[.slice A n c, .int .i64 m] 157) 118 #[.slice none 0 0, .int .i64 0]).alloc (.cells #[.slice none 0 0, .int .i64 0] 118)
  have B2 := Blk.new3 w (.cells #[.slice A n c, .int .i64 m] 157) (.cells #[.slice none 0 0, .int .i64 0] 118) 118 #[.slice none 0 0, .int .i64 0]
  have hlen := hs.len
  skip
  skip
  have cB0_0 := B0.c0; have cB0_1 := B0.c1; have fB0 := B0.frozen; have cB1_0 := B1.c0; have cB1_1 := B1.c1; have fB1 := B1.frozen; have cB2_0 := B2.c0; have cB2_1 := B2.c1; have fB2 := B2.frozen
  go_enter Tryz.func108, Tryz.ntmps108
  go_wp2_with fail
  refine (hq _ hb0).mono ?_
  rintro e w1 ⟨g, rfl, Bg, lg, hbw1⟩
  have hb1 := thn hb0 hbw1
  clear cB0_0 cB0_1 fB0 cB1_0 cB1_1 fB1 cB2_0 cB2_1 fB2
  replace B0 := B0.below hbw1
  replace B1 := B1.below hbw1
  replace B2 := B2.below hbw1
  simp only [whole]
  have cB0_0 := B0.c0; have cB0_1 := B0.c1; have fB0 := B0.frozen; have cB1_0 := B1.c0; have cB1_1 := B1.c1; have fB1 := B1.frozen; have cB2_0 := B2.c0; have cB2_1 := B2.c1; have fB2 := B2.frozen
  have hlg : w.heap.size + 1 + 1 < g := by have := lg; simp at this; omega
  clear hbw1 lg hb0 hq
  go_wp2
  exact bodyPost_ret (v := .agg #[.slice (some ⟨g, 0, none⟩) n n, .int .i64 m]) (by simp [results, Tryz.results108, go_sem, cB1_0, cB1_1, cB2_0, cB2_1]) rfl ⟨(⟨⟨some ⟨g, 0, none⟩, n, n, xs⟩, m⟩ : PartV), rfl, ⟨fresh_sl encW ((((Bg.far (p := ⟨w.heap.size + 1 + 1, 0, none⟩) (by simp only []; omega) _).far (p := ⟨w.heap.size + 1 + 1, 1, none⟩) (by simp only []; omega) _).far (p := ⟨w.heap.size + 1, 0, none⟩) (by simp only []; omega) _).far (p := ⟨w.heap.size + 1, 1, none⟩) (by simp only []; omega) _) hlen (by omega), Fr.some ((((Bg.far (p := ⟨w.heap.size + 1 + 1, 0, none⟩) (by simp only []; omega) _).far (p := ⟨w.heap.size + 1 + 1, 1, none⟩) (by simp only []; omega) _).far (p := ⟨w.heap.size + 1, 0, none⟩) (by simp only []; omega) _).far (p := ⟨w.heap.size + 1, 1, none⟩) (by simp only []; omega) _) (by omega)⟩, rfl, ((((hb1.setCell (p := ⟨w.heap.size + 1 + 1, 0, none⟩) (by simp only []; omega) _).setCell (p := ⟨w.heap.size + 1 + 1, 1, none⟩) (by simp only []; omega) _).setCell (p := ⟨w.heap.size + 1, 0, none⟩) (by simp only []; omega) _).setCell (p := ⟨w.heap.size + 1, 1, none⟩) (by simp only []; omega) _)⟩

set_option maxHeartbeats 1000000 in
theorem toCore_any (x : CoreT) (hn : smC x) (w : World) (hs : okC w x) :
    Calls Tryz.prog 77 #[.agg (eCo x).toArray] w (Post (fun x' : CoreT => .agg (eCo x').toArray) fun x' w' => liC w' w.heap.size x' ∧ cC x' = cC x ∧ Below w.heap.size w w') := by
  obtain ⟨⟨A, n, c, xs⟩, m, t⟩ := x
  simp only [eCo, okC, smC, SV.v] at *
  have hq := fun W hW => toIntS_any A n c xs hn W (hs.below hW)
  have hb0 := alo (alo (alo (Below.refl w.heap.size w) (.cells #[.slice A n c, .int .i64 m, .bool t] 111)) (.cells #[.slice none 0 0, .int .i64 0, .bool false] 74)) (.cells #[.slice none 0 0, .int .i64 0, .bool false] 74)
  have B0 := ((Blk.new w 111 #[.slice A n c, .int .i64 m, .bool t]).alloc (.cells #[.slice none 0 0, .int .i64 0, .bool false] 74)).alloc (.cells #[.slice none 0 0, .int .i64 0, .bool false] 74)
  have B1 := (Blk.new2 w (.cells #[.slice A n c, .int .i64 m, .bool t] 111) 74 #[.slice none 0 0, .int .i64 0, .bool false]).alloc (.cells #[.slice none 0 0, .int .i64 0, .bool false] 74)
  have B2 := Blk.new3 w (.cells #[.slice A n c, .int .i64 m, .bool t] 111) (.cells #[.slice none 0 0, .int .i64 0, .bool false] 74) 74 #[.slice none 0 0, .int .i64 0, .bool false]
  have hlen := hs.len
  skip
  skip
  have cB0_0 := B0.c0; have cB0_1 := B0.c1; have cB0_2 := B0.c2; have fB0 := B0.frozen; have cB1_0 := B1.c0; have cB1_1 := B1.c1; have cB1_2 := B1.c2; have fB1 := B1.frozen; have cB2_0 := B2.c0; have cB2_1 := B2.c1; have cB2_2 := B2.c2; have fB2 := B2.frozen
  go_enter Tryz.func77, Tryz.ntmps77
  go_wp2_with fail
  refine (hq _ hb0).mono ?_
  rintro e w1 ⟨g, rfl, Bg, lg, hbw1⟩
  have hb1 := thn hb0 hbw1
  clear cB0_0 cB0_1 cB0_2 fB0 cB1_0 cB1_1 cB1_2 fB1 cB2_0 cB2_1 cB2_2 fB2
  replace B0 := B0.below hbw1
  replace B1 := B1.below hbw1
  replace B2 := B2.below hbw1
  simp only [whole]
  have cB0_0 := B0.c0; have cB0_1 := B0.c1; have cB0_2 := B0.c2; have fB0 := B0.frozen; have cB1_0 := B1.c0; have cB1_1 := B1.c1; have cB1_2 := B1.c2; have fB1 := B1.frozen; have cB2_0 := B2.c0; have cB2_1 := B2.c1; have cB2_2 := B2.c2; have fB2 := B2.frozen
  have hlg : w.heap.size + 1 + 1 < g := by have := lg; simp at this; omega
  clear hbw1 lg hb0 hq
  go_wp2
  exact bodyPost_ret (v := .agg #[.slice (some ⟨g, 0, none⟩) n n, .int .i64 m, .bool t]) (by simp [results, Tryz.results77, go_sem, cB1_0, cB1_1, cB1_2, cB2_0, cB2_1, cB2_2]) rfl ⟨(⟨⟨some ⟨g, 0, none⟩, n, n, xs⟩, m, t⟩ : CoreT), rfl, ⟨fresh_sl encI ((((((Bg.far (p := ⟨w.heap.size + 1 + 1, 0, none⟩) (by simp only []; omega) _).far (p := ⟨w.heap.size + 1 + 1, 1, none⟩) (by simp only []; omega) _).far (p := ⟨w.heap.size + 1 + 1, 2, none⟩) (by simp only []; omega) _).far (p := ⟨w.heap.size + 1, 0, none⟩) (by simp only []; omega) _).far (p := ⟨w.heap.size + 1, 1, none⟩) (by simp only []; omega) _).far (p := ⟨w.heap.size + 1, 2, none⟩) (by simp only []; omega) _) hlen (by omega), Fr.some ((((((Bg.far (p := ⟨w.heap.size + 1 + 1, 0, none⟩) (by simp only []; omega) _).far (p := ⟨w.heap.size + 1 + 1, 1, none⟩) (by simp only []; omega) _).far (p := ⟨w.heap.size + 1 + 1, 2, none⟩) (by simp only []; omega) _).far (p := ⟨w.heap.size + 1, 0, none⟩) (by simp only []; omega) _).far (p := ⟨w.heap.size + 1, 1, none⟩) (by simp only []; omega) _).far (p := ⟨w.heap.size + 1, 2, none⟩) (by simp only []; omega) _) (by omega)⟩, rfl, ((((((hb1.setCell (p := ⟨w.heap.size + 1 + 1, 0, none⟩) (by simp only []; omega) _).setCell (p := ⟨w.heap.size + 1 + 1, 1, none⟩) (by simp only []; omega) _).setCell (p := ⟨w.heap.size + 1 + 1, 2, none⟩) (by simp only []; omega) _).setCell (p := ⟨w.heap.size + 1, 0, none⟩) (by simp only []; omega) _).setCell (p := ⟨w.heap.size + 1, 1, none⟩) (by simp only []; omega) _).setCell (p := ⟨w.heap.size + 1, 2, none⟩) (by simp only []; omega) _)⟩

theorem toHoldE_any (x : HoldR) (hn : smH x) (w : World) (hs : okH w x) :
    Calls Tryz.prog 78 #[.agg (eHr x).toArray] w (Post (fun x' : HoldR => .agg (eHr x').toArray) fun x' w' => liH w' w.heap.size x' ∧ cH x' = cH x ∧ Below w.heap.size w w') :=
  (toHold_any x.A x.n x.c x.xs hn w hs).mono fun e w' ⟨g, a, b, c, d⟩ => ⟨⟨some ⟨g, 0, none⟩, x.n, x.n, x.xs⟩, a, ⟨fresh_sl encI b hs.len hn, Fr.some b c⟩, rfl, d⟩
theorem toOrderE_any (x : OrdL) (hn : smO x) (w : World) (hs : okO w x) :
    Calls Tryz.prog 76 #[x.v] w (Post (fun x' : OrdL => x'.v) fun x' w' => liO w' w.heap.size x' ∧ cO x' = cO x ∧ Below w.heap.size w w') :=
  (toOrderS_any x.A x.n x.c x.xs hn w hs).mono fun e w' ⟨g, a, b, c, d⟩ => ⟨⟨some ⟨g, 0, none⟩, x.n, x.n, x.xs⟩, a, ⟨fresh_sl encO b hs.len hn, Fr.some b c⟩, rfl, d⟩
theorem eqPart_any (x x' : PartV) (w : World) (hs : okP w x) (hs' : okP w x') (hc : cP x = cP x') :
    Calls Tryz.prog 118 #[.agg (eP x).toArray, .agg (eP x').toArray] w fun e w' => .returned (.bool true) = e ∧ Below w.heap.size w w' := by
  obtain ⟨⟨A, n, c, xs⟩, m⟩ := x
  obtain ⟨⟨A', n', c', xs'⟩, m'⟩ := x'
  simp only [eP, okP, cP, SV.v, Prod.mk.injEq] at *
  obtain ⟨rfl, rfl⟩ := hc
  obtain rfl : n = n' := by have h1 := hs.len; have h2 := hs'.len; omega
  have hb0 := alo (alo (Below.refl w.heap.size w) (.cells #[.slice A n c, .int .i64 m] 118)) (.cells #[.slice A' n c', .int .i64 m] 118)
  have B1 := (Blk.new w 118 #[.slice A n c, .int .i64 m]).alloc (.cells #[.slice A' n c', .int .i64 m] 118)
  have B2 := Blk.new2 w (.cells #[.slice A n c, .int .i64 m] 118) 118 #[.slice A' n c', .int .i64 m]
  have hq := eqWindowS_any A A' n c c' xs _ (hs.below hb0) (hs'.below hb0)
  clear hs hs'
  skip
  skip
  have cB1_0 := B1.c0; have cB1_1 := B1.c1; have fB1 := B1.frozen; have cB2_0 := B2.c0; have cB2_1 := B2.c1; have fB2 := B2.frozen
  go_enter Tryz.func118, Tryz.ntmps118
  go_wp2_with fail
  refine hq.mono ?_
  rintro e w1 ⟨rfl, hb1⟩
  clear cB1_0 cB1_1 fB1 cB2_0 cB2_1 fB2
  replace B1 := B1.below hb1
  replace B2 := B2.below hb1
  have cB1_0 := B1.c0; have cB1_1 := B1.c1; have fB1 := B1.frozen; have cB2_0 := B2.c0; have cB2_1 := B2.c1; have fB2 := B2.frozen
  go_wp2
  go_ret
  exact ⟨rfl, thn hb0 hb1⟩
theorem eqCore_any (x x' : CoreT) (w : World) (hs : okC w x) (hs' : okC w x') (hc : cC x = cC x') :
    Calls Tryz.prog 88 #[.agg (eCo x).toArray, .agg (eCo x').toArray] w fun e w' => .returned (.bool true) = e ∧ Below w.heap.size w w' := by
  obtain ⟨⟨A, n, c, xs⟩, m, t⟩ := x
  obtain ⟨⟨A', n', c', xs'⟩, m', t'⟩ := x'
  simp only [eCo, okC, cC, SV.v, Prod.mk.injEq] at *
  obtain ⟨rfl, rfl, rfl⟩ := hc
  obtain rfl : n = n' := by have h1 := hs.len; have h2 := hs'.len; omega
  have hb0 := alo (alo (Below.refl w.heap.size w) (.cells #[.slice A n c, .int .i64 m, .bool t] 74)) (.cells #[.slice A' n c', .int .i64 m, .bool t] 74)
  have B1 := (Blk.new w 74 #[.slice A n c, .int .i64 m, .bool t]).alloc (.cells #[.slice A' n c', .int .i64 m, .bool t] 74)
  have B2 := Blk.new2 w (.cells #[.slice A n c, .int .i64 m, .bool t] 74) 74 #[.slice A' n c', .int .i64 m, .bool t]
  have hq := eqIntS_any A A' n c c' xs _ (hs.below hb0) (hs'.below hb0)
  clear hs hs'
  skip
  skip
  have cB1_0 := B1.c0; have cB1_1 := B1.c1; have cB1_2 := B1.c2; have fB1 := B1.frozen; have cB2_0 := B2.c0; have cB2_1 := B2.c1; have cB2_2 := B2.c2; have fB2 := B2.frozen
  go_enter Tryz.func88, Tryz.ntmps88
  go_wp2_with fail
  refine hq.mono ?_
  rintro e w1 ⟨rfl, hb1⟩
  clear cB1_0 cB1_1 cB1_2 fB1 cB2_0 cB2_1 cB2_2 fB2
  replace B1 := B1.below hb1
  replace B2 := B2.below hb1
  have cB1_0 := B1.c0; have cB1_1 := B1.c1; have cB1_2 := B1.c2; have fB1 := B1.frozen; have cB2_0 := B2.c0; have cB2_1 := B2.c1; have cB2_2 := B2.c2; have fB2 := B2.frozen
  go_wp2
  go_ret
  exact ⟨rfl, thn hb0 hb1⟩
theorem eqHoldE_any (x x' : HoldR) (w : World) (hs : okH w x) (hs' : okH w x') (hc : cH x = cH x') :
    Calls Tryz.prog 89 #[.agg (eHr x).toArray, .agg (eHr x').toArray] w fun e w' => .returned (.bool true) = e ∧ Below w.heap.size w w' := by
  obtain ⟨A, n, c, xs⟩ := x
  obtain ⟨A', n', c', xs'⟩ := x'
  simp only [okH, cH] at hs hs' hc
  subst hc
  obtain rfl : n = n' := by have h1 := hs.len; have h2 := hs'.len; omega
  exact eqHold_any A A' n c c' xs w hs hs'
theorem eqOrderE_any (x x' : OrdL) (w : World) (hs : okO w x) (hs' : okO w x') (hc : cO x = cO x') :
    Calls Tryz.prog 87 #[x.v, x'.v] w fun e w' => .returned (.bool true) = e ∧ Below w.heap.size w w' := by
  obtain ⟨A, n, c, xs⟩ := x
  obtain ⟨A', n', c', xs'⟩ := x'
  simp only [okO, cO] at hs hs' hc
  subst hc
  obtain rfl : n = n' := by have h1 := hs.len; have h2 := hs'.len; omega
  exact eqOrderS_any A A' n c c' xs w hs hs'
end Go.Proofs.YtckgdlgdipfgmaaGreat
