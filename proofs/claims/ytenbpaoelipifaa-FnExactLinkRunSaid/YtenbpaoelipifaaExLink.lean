/- The exact laws' own functions at Link: sz, to, eq; LinkNext of impl and spec. -/
import Derived.Test.YtenbpaoelipifaaExPacket
import Derived.Test.YtenbpaoelipifaaLinkV
import Derived.Test.YtenbpaoelipifaaSel
namespace Go.Proofs.Ytenbpaoelipifaa
set_option linter.unusedVariables false
set_option linter.unusedSimpArgs false
open Go.RowKit

theorem szLink_any (d : Int) (A : Option Addr) (n c : Nat) (left : Int) (hl : 0 ≤ left ∧ left ≤ 1048576) (hn : n ≤ 9223372036854775807) (w : World) :
    Calls Try.prog 13 #[linkV d A n c, .int .i64 left] w fun e w' => .returned (.int .i64 (szOfPacket n left)) = e ∧ Below w.heap.size w w' := by
  have hq := fun W => szPacketS_any A n c left hl hn W
  have hv : szOfPacket n left = -1 ∨ 0 ≤ szOfPacket n left := by unfold szOfPacket; split <;> omega
  obtain ⟨h1, h2⟩ := hl
  generalize szOfPacket n left = v at *
  simp only [linkV]
  rcases hv with rfl | hv
  · go_enter Try.func13, Try.ntmps13
    go_wp2_with fail; refine (hq _).mono ?_; rintro e w' ⟨rfl, rfl⟩
    go_wp2
    go_ret
    exact ⟨rfl, (by repeat (first | exact Below.refl _ _ | assumption | apply alo | (apply Below.setCell; rotate_left; (first | assumption | exact Nat.le_refl _ | (simp only []; omega))) | apply Below.drew | apply belowDrewN | (refine thn ?_ (by assumption))))⟩
  · go_enter Try.func13, Try.ntmps13
    go_wp2_with fail; refine (hq _).mono ?_; rintro e w' ⟨rfl, rfl⟩
    go_wp2
    go_ret
    exact ⟨rfl, (by repeat (first | exact Below.refl _ _ | assumption | apply alo | (apply Below.setCell; rotate_left; (first | assumption | exact Nat.le_refl _ | (simp only []; omega))) | apply Below.drew | apply belowDrewN | (refine thn ?_ (by assumption))))⟩

set_option maxHeartbeats 1000000 in
theorem toLink_any (d : Int) (A : Option Addr) (n c : Nat) (xs : List (Int × Int)) (hn : n ≤ 1048576) (w : World) (hs : Sl w 2 eS A n c xs) :
    Calls Try.prog 15 #[linkV d A n c] w (Post (fun g => linkV d (some ⟨g, 0, none⟩) n n) fun g w' => Blk w' g 75 (xs.flatMap eS).toArray ∧ w.heap.size ≤ g ∧ Below w.heap.size w w') := by
  have hq := fun W hW => toPacketS_any A n c xs hn W (hs.below hW)
  simp only [linkV]
  have hb0 := alo (alo (alo (Below.refl w.heap.size w) (.cells #[.int .i64 d, .slice A n c] 24)) (.cells #[.int .i64 0, .slice none 0 0] 29)) (.cells #[.int .i64 d, .slice none 0 0] 29)
  have B0 := ((Blk.new w 24 #[.int .i64 d, .slice A n c]).alloc (.cells #[.int .i64 0, .slice none 0 0] 29)).alloc (.cells #[.int .i64 d, .slice none 0 0] 29)
  have B1 := (Blk.new2 w (.cells #[.int .i64 d, .slice A n c] 24) 29 #[.int .i64 0, .slice none 0 0]).alloc (.cells #[.int .i64 d, .slice none 0 0] 29)
  have B2 := Blk.new3 w (.cells #[.int .i64 d, .slice A n c] 24) (.cells #[.int .i64 0, .slice none 0 0] 29) 29 #[.int .i64 d, .slice none 0 0]
  skip
  skip
  go_enter Try.func15, Try.ntmps15
  go_wp2_with fail
  refine (hq _ hb0).mono ?_
  rintro e w1 ⟨g, rfl, Bg, lg, hbw1⟩
  have hb1 := thn hb0 hbw1
  replace B0 := B0.below hbw1
  replace B1 := B1.below hbw1
  replace B2 := B2.below hbw1
  simp only [whole]
  have cB0_0 := B0.c0; have cB0_1 := B0.c1; have fB0 := B0.frozen; have cB1_0 := B1.c0; have cB1_1 := B1.c1; have fB1 := B1.frozen; have cB2_0 := B2.c0; have cB2_1 := B2.c1; have fB2 := B2.frozen
  have hlg : w.heap.size + 1 + 1 < g := by have := lg; simp at this; omega
  clear hbw1 lg hb0
  go_wp2
  exact bodyPost_ret (v := linkV d (some ⟨g, 0, none⟩) n n) (by simp [results, Try.results15, go_sem, linkV, cB1_0, cB1_1, cB2_0, cB2_1]) rfl ⟨g, rfl, ((Bg.far (p := ⟨w.heap.size + 1 + 1, 1, none⟩) (by simp only []; omega) _).far (p := ⟨w.heap.size + 1, 0, none⟩) (by simp only []; omega) _).far (p := ⟨w.heap.size + 1, 1, none⟩) (by simp only []; omega) _, by omega, (((hb1.setCell (p := ⟨w.heap.size + 1 + 1, 1, none⟩) (by simp only []; omega) _).setCell (p := ⟨w.heap.size + 1, 0, none⟩) (by simp only []; omega) _).setCell (p := ⟨w.heap.size + 1, 1, none⟩) (by simp only []; omega) _)⟩

theorem eqLink_any (d : Int) (A A' : Option Addr) (n c c' : Nat) (xs : List (Int × Int)) (w : World) (hs : Sl w 2 eS A n c xs) (hs' : Sl w 2 eS A' n c' xs) :
    Calls Try.prog 17 #[linkV d A n c, linkV d A' n c'] w fun e w' => .returned (.bool true) = e ∧ Below w.heap.size w w' := by
  have hb0 := alo (alo (Below.refl w.heap.size w) (.cells #[.int .i64 d, .slice A n c] 29)) (.cells #[.int .i64 d, .slice A' n c'] 29)
  have hq := eqPacketS_any A A' n c c' xs _ (hs.below hb0) (hs'.below hb0)
  simp only [linkV]
  clear hs hs'
  go_enter Try.func17, Try.ntmps17
  go_wp2_with fail
  refine hq.mono ?_
  rintro e w1 ⟨rfl, hb1⟩
  go_wp2
  go_ret
  exact ⟨rfl, thn hb0 hb1⟩

def linkNext (d : Int) (xs : List (Int × Int)) : Int := if linkOk d xs then (match xs with | [] => -1 | y :: _ => y.1) else -1
set_option maxHeartbeats 1000000 in
theorem linkNext_any (d : Int) (A : Option Addr) (n c : Nat) (xs : List (Int × Int)) (w : World) (hs : Sl w 2 eS A n c xs) :
    Calls Try.prog 24 #[linkV d A n c] w fun e w' => .returned (.int .i64 (linkNext d xs)) = e ∧ Below w.heap.size w w' := by
  have hle := hs.le
  have hmax := hs.max
  have hb0 := alo (Below.refl w.heap.size w) (.cells #[.int .i64 d, .slice A n c] 29)
  have hq := linkValid_any d A n c xs _ (hs.below hb0)
  unfold linkNext
  simp only [linkV] at hq ⊢
  skip
  have B0 := Blk.new w 29 #[.int .i64 d, .slice A n c]
  cases hv : linkOk d xs
  · rw [hv] at hq
    clear hv
    go_enter Try.func24, Try.ntmps24
    go_wp2_with fail; refine (hq).mono ?_; rintro e w1 ⟨rfl, hbw1⟩; replace B0 := Blk.belowOf B0 hbw1 (by repeat (first | exact B0 | apply Blk.alloc | apply Blk.drew | (apply Blk.far; rotate_left; (first | assumption | exact Ne.symm (by assumption))) | apply Blk.set_))
    go_wp2
    go_ret
    exact ⟨rfl, thn hb0 hbw1⟩
  · rw [hv] at hq
    clear hv
    cases xs with
    | nil =>
      obtain rfl : n = 0 := by have := hs.len; simpa using this.symm
      go_enter Try.func24, Try.ntmps24
      go_wp2_with fail; refine (hq).mono ?_; rintro e w1 ⟨rfl, hbw1⟩; replace B0 := Blk.belowOf B0 hbw1 (by repeat (first | exact B0 | apply Blk.alloc | apply Blk.drew | (apply Blk.far; rotate_left; (first | assumption | exact Ne.symm (by assumption))) | apply Blk.set_))
      have cB0_0 := B0.c0; have cB0_1 := B0.c1; have fB0 := B0.frozen
      go_wp2
      go_ret
      exact ⟨rfl, thn hb0 hbw1⟩
    | cons y l =>
      have hn : 0 < n := by have := hs.len; simp at this; omega
      go_enter Try.func24, Try.ntmps24
      go_wp2_with fail; refine (hq).mono ?_; rintro e w1 ⟨rfl, hbw1⟩; replace B0 := Blk.belowOf B0 hbw1 (by repeat (first | exact B0 | apply Blk.alloc | apply Blk.drew | (apply Blk.far; rotate_left; (first | assumption | exact Ne.symm (by assumption))) | apply Blk.set_))
      have hB1 := thn hb0 hbw1
      obtain ⟨b, o, rfl, y', hx, hc⟩ := hs.nth hn hB1
      obtain rfl : y = y' := by simpa using hx
      have hc0 := hc 0 _ rfl
      clear hc hx hq hs
      obtain ⟨ya, yb⟩ := y
      simp only [eS, Nat.zero_mul, Nat.add_zero] at hc0
      have hnz : (0 : Int) < (n : Int) := by omega
      have hnz2 : ¬ n = 0 := by omega
      have cB0_0 := B0.c0; have cB0_1 := B0.c1; have fB0 := B0.frozen
      go_wp2
      go_ret
      exact ⟨rfl, hB1⟩
set_option maxHeartbeats 1000000 in
theorem specLinkNext_any (d : Int) (A : Option Addr) (n c : Nat) (xs : List (Int × Int)) (w : World) (hs : Sl w 2 eS A n c xs) :
    Calls Try.prog 23 #[linkV d A n c] w fun e w' => .returned (.int .i64 (linkNext d xs)) = e ∧ Below w.heap.size w w' := by
  have hle := hs.le
  have hmax := hs.max
  have hb0 := alo (Below.refl w.heap.size w) (.cells #[.int .i64 d, .slice A n c] 29)
  have hq := specLinkValid_any d A n c xs _ (hs.below hb0)
  unfold linkNext
  simp only [linkV] at hq ⊢
  skip
  have B0 := Blk.new w 29 #[.int .i64 d, .slice A n c]
  cases hv : linkOk d xs
  · rw [hv] at hq
    clear hv
    go_enter Try.func23, Try.ntmps23
    go_wp2_with fail; refine (hq).mono ?_; rintro e w1 ⟨rfl, hbw1⟩; replace B0 := Blk.belowOf B0 hbw1 (by repeat (first | exact B0 | apply Blk.alloc | apply Blk.drew | (apply Blk.far; rotate_left; (first | assumption | exact Ne.symm (by assumption))) | apply Blk.set_))
    go_wp2
    go_ret
    exact ⟨rfl, thn hb0 hbw1⟩
  · rw [hv] at hq
    clear hv
    cases xs with
    | nil =>
      obtain rfl : n = 0 := by have := hs.len; simpa using this.symm
      go_enter Try.func23, Try.ntmps23
      go_wp2_with fail; refine (hq).mono ?_; rintro e w1 ⟨rfl, hbw1⟩; replace B0 := Blk.belowOf B0 hbw1 (by repeat (first | exact B0 | apply Blk.alloc | apply Blk.drew | (apply Blk.far; rotate_left; (first | assumption | exact Ne.symm (by assumption))) | apply Blk.set_))
      have cB0_0 := B0.c0; have cB0_1 := B0.c1; have fB0 := B0.frozen
      go_wp2
      go_ret
      exact ⟨rfl, thn hb0 hbw1⟩
    | cons y l =>
      have hn : 0 < n := by have := hs.len; simp at this; omega
      go_enter Try.func23, Try.ntmps23
      go_wp2_with fail; refine (hq).mono ?_; rintro e w1 ⟨rfl, hbw1⟩; replace B0 := Blk.belowOf B0 hbw1 (by repeat (first | exact B0 | apply Blk.alloc | apply Blk.drew | (apply Blk.far; rotate_left; (first | assumption | exact Ne.symm (by assumption))) | apply Blk.set_))
      have hB1 := thn hb0 hbw1
      obtain ⟨b, o, rfl, y', hx, hc⟩ := hs.nth hn hB1
      obtain rfl : y = y' := by simpa using hx
      have hc0 := hc 0 _ rfl
      clear hc hx hq hs
      obtain ⟨ya, yb⟩ := y
      simp only [eS, Nat.zero_mul, Nat.add_zero] at hc0
      have hnz : (0 : Int) < (n : Int) := by omega
      have hnz2 : ¬ n = 0 := by omega
      have cB0_0 := B0.c0; have cB0_1 := B0.c1; have fB0 := B0.frozen
      go_wp2
      go_ret
      exact ⟨rfl, hB1⟩
end Go.Proofs.Ytenbpaoelipifaa
