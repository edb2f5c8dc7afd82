/- The exact laws' own functions at Link: sz, to, eq; LinkNext of impl and spec. -/
import Derived.Test.YthellpcohdbbfaaExPacket
import Derived.Test.YthellpcohdbbfaaLinkV
import Derived.Test.YthellpcohdbbfaaSel
namespace Go.Proofs.Ythellpcohdbbfaa
set_option linter.unusedVariables false
set_option linter.unusedSimpArgs false
open Go.RowKit

def linkNext (d : Int) (xs : List (Int × Int)) : Int := if linkOk d xs then (match xs with | [] => -1 | y :: _ => y.1) else -1
set_option maxHeartbeats 1000000 in
theorem linkNext_any (d : Int) (A : Option Addr) (n c : Nat) (xs : List (Int × Int)) (w : World) (hs : Sl w 2 eS A n c xs) :
    Calls Try.prog 46 #[linkV d A n c] w fun e w' => .returned (.int .i64 (linkNext d xs)) = e ∧ Below w.heap.size w w' := by
  have hle := hs.le
  have hmax := hs.max
  have hb0 := alo (Below.refl w.heap.size w) (.cells #[.int .i64 d, .slice A n c] 55)
  have hq := linkValid_any d A n c xs _ (hs.below hb0)
  unfold linkNext
  simp only [linkV] at hq ⊢
  skip
  have B0 := Blk.new w 55 #[.int .i64 d, .slice A n c]
  cases hv : linkOk d xs
  · rw [hv] at hq
    clear hv
    go_enter Try.func46, Try.ntmps46
    go_wp2_with fail; refine (hq).mono ?_; rintro e w1 ⟨rfl, hbw1⟩; replace B0 := Blk.belowOf B0 hbw1 (by repeat (first | exact B0 | apply Blk.alloc | apply Blk.drew | (apply Blk.far; rotate_left; (first | assumption | exact Ne.symm (by assumption))) | apply Blk.set_))
    go_wp2
    go_ret
    exact ⟨rfl, thn hb0 hbw1⟩
  · rw [hv] at hq
    clear hv
    cases xs with
    | nil =>
      obtain rfl : n = 0 := by have := hs.len; simpa using this.symm
      go_enter Try.func46, Try.ntmps46
      go_wp2_with fail; refine (hq).mono ?_; rintro e w1 ⟨rfl, hbw1⟩; replace B0 := Blk.belowOf B0 hbw1 (by repeat (first | exact B0 | apply Blk.alloc | apply Blk.drew | (apply Blk.far; rotate_left; (first | assumption | exact Ne.symm (by assumption))) | apply Blk.set_))
      have cB0_0 := B0.c0; have cB0_1 := B0.c1; have fB0 := B0.frozen
      go_wp2
      go_ret
      exact ⟨rfl, thn hb0 hbw1⟩
    | cons y l =>
      have hn : 0 < n := by have := hs.len; simp at this; omega
      go_enter Try.func46, Try.ntmps46
      go_wp2_with fail; refine (hq).mono ?_; rintro e w1 ⟨rfl, hbw1⟩; replace B0 := Blk.belowOf B0 hbw1 (by repeat (first | exact B0 | apply Blk.alloc | apply Blk.drew | (apply Blk.far; rotate_left; (first | assumption | exact Ne.symm (by assumption))) | apply Blk.set_))
      have hB1 := thn hb0 hbw1
      obtain ⟨b, o, rfl, y', hx, hc⟩ := hs.nth hn hB1
      obtain rfl : y = y' := by simpa using hx
      have hc0 := hc 0 _ rfl
      clear hc hx hq hs
      obtain ⟨ya, yb⟩ := y
      simp only [eS, Nat.zero_mul, Nat.add_zero] at hc0
      have hnz : (0 : Int) < (n : Int) := by omega
      have hnz2 : ¬ n = 0 := by omega
      have cB0_0 := B0.c0; have cB0_1 := B0.c1; have fB0 := B0.frozen
      go_wp2
      go_ret
      exact ⟨rfl, hB1⟩
set_option maxHeartbeats 1000000 in
theorem specLinkNext_any (d : Int) (A : Option Addr) (n c : Nat) (xs : List (Int × Int)) (w : World) (hs : Sl w 2 eS A n c xs) :
    Calls Try.prog 47 #[linkV d A n c] w fun e w' => .returned (.int .i64 (linkNext d xs)) = e ∧ Below w.heap.size w w' := by
  have hle := hs.le
  have hmax := hs.max
  have hb0 := alo (Below.refl w.heap.size w) (.cells #[.int .i64 d, .slice A n c] 55)
  have hq := specLinkValid_any d A n c xs _ (hs.below hb0)
  unfold linkNext
  simp only [linkV] at hq ⊢
  skip
  have B0 := Blk.new w 55 #[.int .i64 d, .slice A n c]
  cases hv : linkOk d xs
  · rw [hv] at hq
    clear hv
    go_enter Try.func47, Try.ntmps47
    go_wp2_with fail; refine (hq).mono ?_; rintro e w1 ⟨rfl, hbw1⟩; replace B0 := Blk.belowOf B0 hbw1 (by repeat (first | exact B0 | apply Blk.alloc | apply Blk.drew | (apply Blk.far; rotate_left; (first | assumption | exact Ne.symm (by assumption))) | apply Blk.set_))
    go_wp2
    go_ret
    exact ⟨rfl, thn hb0 hbw1⟩
  · rw [hv] at hq
    clear hv
    cases xs with
    | nil =>
      obtain rfl : n = 0 := by have := hs.len; simpa using this.symm
      go_enter Try.func47, Try.ntmps47
      go_wp2_with fail; refine (hq).mono ?_; rintro e w1 ⟨rfl, hbw1⟩; replace B0 := Blk.belowOf B0 hbw1 (by repeat (first | exact B0 | apply Blk.alloc | apply Blk.drew | (apply Blk.far; rotate_left; (first | assumption | exact Ne.symm (by assumption))) | apply Blk.set_))
      have cB0_0 := B0.c0; have cB0_1 := B0.c1; have fB0 := B0.frozen
      go_wp2
      go_ret
      exact ⟨rfl, thn hb0 hbw1⟩
    | cons y l =>
      have hn : 0 < n := by have := hs.len; simp at this; omega
      go_enter Try.func47, Try.ntmps47
      go_wp2_with fail; refine (hq).mono ?_; rintro e w1 ⟨rfl, hbw1⟩; replace B0 := Blk.belowOf B0 hbw1 (by repeat (first | exact B0 | apply Blk.alloc | apply Blk.drew | (apply Blk.far; rotate_left; (first | assumption | exact Ne.symm (by assumption))) | apply Blk.set_))
      have hB1 := thn hb0 hbw1
      obtain ⟨b, o, rfl, y', hx, hc⟩ := hs.nth hn hB1
      obtain rfl : y = y' := by simpa using hx
      have hc0 := hc 0 _ rfl
      clear hc hx hq hs
      obtain ⟨ya, yb⟩ := y
      simp only [eS, Nat.zero_mul, Nat.add_zero] at hc0
      have hnz : (0 : Int) < (n : Int) := by omega
      have hnz2 : ¬ n = 0 := by omega
      have cB0_0 := B0.c0; have cB0_1 := B0.c1; have fB0 := B0.frozen
      go_wp2
      go_ret
      exact ⟨rfl, hB1⟩
end Go.Proofs.Ythellpcohdbbfaa
