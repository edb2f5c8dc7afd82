/- The exact laws' own functions at []int: sz, to, eq. -/
import Derived.Test.YtckgdlgdipfgmaaGreatFill
import Derived.Test.YtckgdlgdipfgmaaGreatAppT
import Derived.Test.YtckgdlgdipfgmaaGreatNear
import Derived.Test.YtckgdlgdipfgmaaGreatList
namespace Go.Proofs.YtckgdlgdipfgmaaGreat
set_option linter.unusedVariables false
set_option linter.unusedSimpArgs false
open Go.RowKit

def szOfInt (n : Nat) (left : Int) : Int := if left - (n : Int) < 0 then -1 else left - n
theorem szOfInt_neg {n : Nat} (h : ¬ n ≤ 1048576) : szOfInt n 1048576 = -1 := by unfold szOfInt; rw [if_pos (by omega)]
theorem szOfInt_pos {n : Nat} (h : n ≤ 1048576) : szOfInt n 1048576 = 1048576 - n := by unfold szOfInt; rw [if_neg (by omega)]
theorem szIntS_any (A : Option Addr) (n c : Nat) (left : Int) (hl : 0 ≤ left ∧ left ≤ 1048576) (hn : n ≤ 9223372036854775807) (w : World) :
    Calls Tryz.prog 105 #[.slice A n c, .int .i64 left] w fun e w' => .returned (.int .i64 (szOfInt n left)) = e ∧ w = w' := by
  obtain ⟨h1, h2⟩ := hl
  unfold szOfInt
  by_cases h : left - (n : Int) < 0
  · rw [if_pos h]
    go_enter Tryz.func105, Tryz.ntmps105
    go_wp2
    go_ret
    exact ⟨rfl, rfl⟩
  · rw [if_neg h]
    go_enter Tryz.func105, Tryz.ntmps105
    go_wp2
    go_ret
    exact ⟨rfl, rfl⟩

set_option maxHeartbeats 1000000 in
theorem toIntS_any (A : Option Addr) (n c : Nat) (xs : List Int) (hn : n ≤ 1048576) (w : World) (hs : Sl w 1 eI A n c xs) :
    Calls Tryz.prog 112 #[.slice A n c] w (Post (whole n) fun g w' => Blk w' g 3 (xs.flatMap eI).toArray ∧ w.heap.size ≤ g ∧ Below w.heap.size w w') := by
  have hle := hs.le
  have hmax := hs.max
  have hl := hs.len
  go_enter Tryz.func112, Tryz.ntmps112
  go_wp2_with (at_make; refine make_own rfl _ _ zeroInt rfl encI w.heap.size _ _ n rfl rfl (by omega) (by omega) (by omega) (Nat.le_refl _) ?_; intro w1 own1 hg1; have hb1 := below_of_grown hg1; have U1 : Upto w1 w.heap.size 3 0 (xs.flatMap eI) := Upto.made (n := n) (c := n) encI own1 (by rw [List.length_replicate]; exact hl); clear own1 hg1)
  go_loopg [4] n (fun gg s4 wr => ∃ kk : Nat, kk ≤ n ∧ n - kk ≤ gg ∧ s4 = .int .i64 kk ∧ Aside (Below w.heap.size w wr) ∧ Aside (Upto wr w.heap.size 3 kk (xs.flatMap eI)))
  case atStart => exact ⟨0, Nat.zero_le _, by omega, rfl, (show Aside _ from hb1), (show Aside _ from U1)⟩
  case round =>
    obtain ⟨kk, hkk, hg, rfl, BW, UU⟩ := hrel
    clear hb1 U1
    have U1 := UU.out
    clear UU
    by_cases hlt : kk < n
    · have hltz : (kk : Int) < (n : Int) := by omega
      obtain ⟨b, o, rfl, y, hx, hc⟩ := hs.nth hlt BW.out
      have hc0 := hc 0 _ rfl
      have f0 := Lib.hid (flat_at encI hx 0 (kk * 1) _ rfl rfl)
      clear hc hx
      simp only [eI, Nat.add_zero, Nat.mul_one] at hc0 f0
      have hz := U1.lt
      have hfr := U1.frozen
      obtain ⟨v0, e0⟩ := U1.has f0.out
      go_wp2
      go_roundg (n - (kk + 1))
      case measure => omega
      case rel => exact ⟨kk + 1, by omega, by omega, by go_num, (show Aside _ from Below.setCell BW.out (p := ⟨w.heap.size, _, none⟩) (Nat.le_refl _) _), (show Aside _ from U1.set f0.out)⟩
    · have hltz : ¬ (kk : Int) < (n : Int) := by omega
      obtain rfl : kk = n := by omega
      go_wp2
      go_ret
      exact ⟨w.heap.size, rfl, U1.full (by rw [flatMap_len encI.len, hl]; omega), Nat.le_refl _, BW.out⟩

theorem eqIntS_any (A A' : Option Addr) (n c c' : Nat) (xs : List Int) (w : World) (hs : Sl w 1 eI A n c xs) (hs' : Sl w 1 eI A' n c' xs) :
    Calls Tryz.prog 16 #[.slice A n c, .slice A' n c'] w fun e w' => .returned (.bool true) = e ∧ Below w.heap.size w w' := by
  have hle := hs.le
  have hmax := hs.max
  have hle' := hs'.le
  go_enter Tryz.func16, Tryz.ntmps16
  go_wp2
  go_loopg [5] n (fun gg s3 wr => ∃ kk : Nat, kk ≤ n ∧ n - kk ≤ gg ∧ s3 = .int .i64 kk ∧ Aside (Below w.heap.size w wr))
  case atStart => exact ⟨0, Nat.zero_le _, by omega, rfl, (show Aside _ from Below.refl _ _)⟩
  case round =>
    obtain ⟨kk, hkk, hg, rfl, BW⟩ := hrel
    by_cases hlt : kk < n
    · have hltz : (kk : Int) < (n : Int) := by omega
      obtain ⟨b, o, rfl, y, hx, hc⟩ := hs.nth hlt BW.out
      obtain ⟨b', o', rfl, y', hx', hc'⟩ := hs'.nth hlt BW.out
      obtain rfl : y = y' := by rw [hx'] at hx; injection hx with hx; exact hx.symm
      clear hx hx'
      have g0 := hc 0 _ rfl
      have p0 := hc' 0 _ rfl
      clear hc hc'
      simp only [eI, Nat.add_zero, Nat.mul_one] at g0 p0
      go_wp2_with fail
      go_quiet (fail)
      go_wp2
      go_roundg (n - (kk + 1))
      case measure => omega
      case rel => exact ⟨kk + 1, by omega, by omega, by go_num, (show Aside _ from (by have hBW := BW.out; repeat (first | exact Below.refl _ _ | assumption | apply alo | (apply Below.setCell; rotate_left; (first | assumption | exact Nat.le_refl _ | (simp only []; omega))) | apply Below.drew | apply belowDrewN | (refine thn ?_ (by assumption)))))⟩
    · have hltz : ¬ (kk : Int) < (n : Int) := by omega
      obtain rfl : kk = n := by omega
      go_wp2
      go_ret
      exact ⟨rfl, BW.out⟩
end Go.Proofs.YtckgdlgdipfgmaaGreat
