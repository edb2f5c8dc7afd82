/- The walks of FnExactLinkValid, FnExactLinkNext. -/
import Derived.Test.YtenbpaoelipifaaExLink
import Derived.Deep.RegionWith
namespace Go.Proofs.Ytenbpaoelipifaa
open Go.RowKit

theorem szOfPacket_neg {n : Nat} (h : ¬ n ≤ 1048576) : szOfPacket n 1048576 = -1 := by unfold szOfPacket; rw [if_pos (by omega)]
theorem szOfPacket_pos {n : Nat} (h : n ≤ 1048576) : szOfPacket n 1048576 = 1048576 - n := by unfold szOfPacket; rw [if_neg (by omega)]

set_option maxHeartbeats 2000000 in
theorem lawExactLinkValid (d : Int) (A : Option Addr) (n c : Nat) (xs : List (Int × Int)) (w : World) (hs : Sl w 2 eS A n c xs) :
    Calls Try.prog 3 #[.agg #[.int .i64 d, .slice A n c]] w fun e w' => .returned (.bool true) = e ∧ Below w.heap.size w w' := by
  have hle := hs.le
  have hmax := hs.max
  have hz := fun W => szLink_any d A n c 1048576 (by omega) (by omega) W
  have hS := fun W g h => specLinkValid_any d (some ⟨g, 0, none⟩) n n xs W h
  have hI := fun W g h => linkValid_any d (some ⟨g, 0, none⟩) n n xs W h
  generalize linkOk d xs = v at *
  have h0 := alo (Below.refl w.heap.size w) (.cells #[.int .i64 d, .slice A n c] 24)
  skip
  have B1 := Blk.new w 24 #[.int .i64 d, .slice A n c]
  by_cases hn : n ≤ 1048576
  · rw [szOfPacket_pos hn] at hz
    have hT := fun W hW => toLink_any d A n c xs hn W (hs.below hW)
    have hone := fun W g (B : Blk W g 75 (xs.flatMap eS).toArray) => show Sl W 2 eS (some ⟨g, 0, none⟩) n n xs by have := Sl.of_blk B encS (by rw [hs.len]; omega); rw [hs.len] at this; exact this
    simp only [linkV] at hz hS hI hT
    go_enter Try.func3, Try.ntmps3
    go_wp2_with fail; refine (hz _).mono ?_; rintro e w0 ⟨rfl, hbw0⟩; replace B1 := Blk.belowOf B1 hbw0 (by repeat (first | exact B1 | apply Blk.alloc | apply Blk.drew | (apply Blk.far; rotate_left; (first | assumption | exact Ne.symm (by assumption))) | apply Blk.set_))
    replace h0 := thn h0 hbw0
    clear hbw0
    have cB1_0 := B1.c0; have cB1_1 := B1.c1; have fB1 := B1.frozen
    go_wp2_with fail
    refine (hT _ h0).mono ?_
    rintro e w1 ⟨g1, rfl, Bg1, lg1, hbw1⟩
    have hw1 := thn h0 hbw1
    have sg1 := hone _ _ Bg1
    replace B1 := B1.below hbw1
    clear Bg1 lg1
    simp only [linkV]
    clear h0
    go_wp2_with fail
    refine (hS _ _ sg1).mono ?_
    rintro e w2 ⟨rfl, hb2⟩
    have h2 := thn hw1 hb2
    replace B1 := B1.below hb2
    clear hb2 hbw1 sg1
    have cB1_0 := B1.c0; have cB1_1 := B1.c1; have fB1 := B1.frozen
    go_wp2_with fail
    refine (hT _ h2).mono ?_
    rintro e w3 ⟨g2, rfl, Bg2, lg2, hbw3⟩
    have hw3 := thn h2 hbw3
    have sg2 := hone _ _ Bg2
    replace B1 := B1.below hbw3
    clear Bg2 lg2
    simp only [linkV]
    have hE := fun W h A' c' h' => eqLink_any d (some ⟨g2, 0, none⟩) A' n n c' xs W h h'
    simp only [linkV] at hE
    have sgA := sg2.below (alo (Below.refl _ _) (.cells #[.int .i64 d, .slice (some ⟨g2, 0, none⟩) n n] 29))
    have hA := alo hw3 (.cells #[.int .i64 d, .slice (some ⟨g2, 0, none⟩) n n] 29)
    have B2 := Blk.new w3 29 #[.int .i64 d, .slice (some ⟨g2, 0, none⟩) n n]; have dB1B2 := Nat.ne_of_lt B1.lt; replace B1 := B1.alloc (.cells #[.int .i64 d, .slice (some ⟨g2, 0, none⟩) n n] 29)
    clear hbw3 hw3 sg2 h2 hS
    go_wp2_with fail
    refine (hI _ _ sgA).mono ?_
    rintro e w4 ⟨rfl, hb4⟩
    have h4 := thn hA hb4
    have s4 := sgA.below hb4
    replace B1 := B1.below hb4
    replace B2 := B2.below hb4
    clear hb4 hI sgA hA
    have cB1_0 := B1.c0; have cB1_1 := B1.c1; have fB1 := B1.frozen; have cB2_0 := B2.c0; have cB2_1 := B2.c1; have fB2 := B2.frozen
    go_wp2_with fail
    go_region_with (first
      | (go_at_call 15; refine (hT _ (by repeat (first | exact h4 | apply Below.drew))).mono ?_; rintro e w5 ⟨g3, rfl, Bg3, lg3, hb5⟩; have s5 := hone _ _ Bg3; replace s4 := s4.below (w' := w5) (by repeat (first | exact Below.refl _ _ | assumption | apply alo | (apply Below.setCell; rotate_left; (first | assumption | exact Nat.le_refl _ | (simp only []; omega))) | apply Below.drew | apply belowDrewN | (refine thn ?_ (by assumption)))); replace h4 : Below w.heap.size w w5 := thn (by repeat (first | exact h4 | apply Below.drew)) hb5; replace B2 := Blk.belowOf B2 hb5 (by repeat (first | exact B2 | apply Blk.drew)); clear hb5 Bg3 lg3; have cB2_0 := B2.c0; have cB2_1 := B2.c1; have fB2 := B2.frozen; simp only [linkV])
      | (go_at_call 17; refine (hE _ s4 _ _ s5).mono ?_; rintro e w6 ⟨rfl, hb6⟩; replace h4 := thn h4 hb6; clear hb6 s4 s5))
    all_goals
      go_wp2
      go_ret
      exact ⟨rfl, h4⟩
  · rw [szOfPacket_neg hn] at hz
    simp only [linkV] at hz
    skip
    go_enter Try.func3, Try.ntmps3
    go_wp2_with fail; refine (hz _).mono ?_; rintro e w0 ⟨rfl, hbw0⟩; replace B1 := Blk.belowOf B1 hbw0 (by repeat (first | exact B1 | apply Blk.alloc | apply Blk.drew | (apply Blk.far; rotate_left; (first | assumption | exact Ne.symm (by assumption))) | apply Blk.set_))
    go_wp2
    go_ret
    exact ⟨rfl, thn h0 hbw0⟩
set_option maxHeartbeats 2000000 in
theorem lawExactLinkNext (d : Int) (A : Option Addr) (n c : Nat) (xs : List (Int × Int)) (w : World) (hs : Sl w 2 eS A n c xs) :
    Calls Try.prog 5 #[.agg #[.int .i64 d, .slice A n c]] w fun e w' => .returned (.bool true) = e ∧ Below w.heap.size w w' := by
  have hle := hs.le
  have hmax := hs.max
  have hz := fun W => szLink_any d A n c 1048576 (by omega) (by omega) W
  have hS := fun W g h => specLinkNext_any d (some ⟨g, 0, none⟩) n n xs W h
  have hI := fun W g h => linkNext_any d (some ⟨g, 0, none⟩) n n xs W h
  generalize linkNext d xs = v at *
  have h0 := alo (Below.refl w.heap.size w) (.cells #[.int .i64 d, .slice A n c] 24)
  skip
  have B1 := Blk.new w 24 #[.int .i64 d, .slice A n c]
  by_cases hn : n ≤ 1048576
  · rw [szOfPacket_pos hn] at hz
    have hT := fun W hW => toLink_any d A n c xs hn W (hs.below hW)
    have hone := fun W g (B : Blk W g 75 (xs.flatMap eS).toArray) => show Sl W 2 eS (some ⟨g, 0, none⟩) n n xs by have := Sl.of_blk B encS (by rw [hs.len]; omega); rw [hs.len] at this; exact this
    simp only [linkV] at hz hS hI hT
    go_enter Try.func5, Try.ntmps5
    go_wp2_with fail; refine (hz _).mono ?_; rintro e w0 ⟨rfl, hbw0⟩; replace B1 := Blk.belowOf B1 hbw0 (by repeat (first | exact B1 | apply Blk.alloc | apply Blk.drew | (apply Blk.far; rotate_left; (first | assumption | exact Ne.symm (by assumption))) | apply Blk.set_))
    replace h0 := thn h0 hbw0
    clear hbw0
    have cB1_0 := B1.c0; have cB1_1 := B1.c1; have fB1 := B1.frozen
    go_wp2_with fail
    refine (hT _ h0).mono ?_
    rintro e w1 ⟨g1, rfl, Bg1, lg1, hbw1⟩
    have hw1 := thn h0 hbw1
    have sg1 := hone _ _ Bg1
    replace B1 := B1.below hbw1
    clear Bg1 lg1
    simp only [linkV]
    clear h0
    go_wp2_with fail
    refine (hS _ _ sg1).mono ?_
    rintro e w2 ⟨rfl, hb2⟩
    have h2 := thn hw1 hb2
    replace B1 := B1.below hb2
    clear hb2 hbw1 sg1
    have cB1_0 := B1.c0; have cB1_1 := B1.c1; have fB1 := B1.frozen
    go_wp2_with fail
    refine (hT _ h2).mono ?_
    rintro e w3 ⟨g2, rfl, Bg2, lg2, hbw3⟩
    have hw3 := thn h2 hbw3
    have sg2 := hone _ _ Bg2
    replace B1 := B1.below hbw3
    clear Bg2 lg2
    simp only [linkV]
    have hE := fun W h A' c' h' => eqLink_any d (some ⟨g2, 0, none⟩) A' n n c' xs W h h'
    simp only [linkV] at hE
    have sgA := sg2.below (alo (Below.refl _ _) (.cells #[.int .i64 d, .slice (some ⟨g2, 0, none⟩) n n] 29))
    have hA := alo hw3 (.cells #[.int .i64 d, .slice (some ⟨g2, 0, none⟩) n n] 29)
    have B2 := Blk.new w3 29 #[.int .i64 d, .slice (some ⟨g2, 0, none⟩) n n]; have dB1B2 := Nat.ne_of_lt B1.lt; replace B1 := B1.alloc (.cells #[.int .i64 d, .slice (some ⟨g2, 0, none⟩) n n] 29)
    clear hbw3 hw3 sg2 h2 hS
    go_wp2_with fail
    refine (hI _ _ sgA).mono ?_
    rintro e w4 ⟨rfl, hb4⟩
    have h4 := thn hA hb4
    have s4 := sgA.below hb4
    replace B1 := B1.below hb4
    replace B2 := B2.below hb4
    clear hb4 hI sgA hA
    have cB1_0 := B1.c0; have cB1_1 := B1.c1; have fB1 := B1.frozen; have cB2_0 := B2.c0; have cB2_1 := B2.c1; have fB2 := B2.frozen
    go_wp2_with fail
    go_region_with (first
      | (go_at_call 15; refine (hT _ (by repeat (first | exact h4 | apply Below.drew))).mono ?_; rintro e w5 ⟨g3, rfl, Bg3, lg3, hb5⟩; have s5 := hone _ _ Bg3; replace s4 := s4.below (w' := w5) (by repeat (first | exact Below.refl _ _ | assumption | apply alo | (apply Below.setCell; rotate_left; (first | assumption | exact Nat.le_refl _ | (simp only []; omega))) | apply Below.drew | apply belowDrewN | (refine thn ?_ (by assumption)))); replace h4 : Below w.heap.size w w5 := thn (by repeat (first | exact h4 | apply Below.drew)) hb5; replace B2 := Blk.belowOf B2 hb5 (by repeat (first | exact B2 | apply Blk.drew)); clear hb5 Bg3 lg3; have cB2_0 := B2.c0; have cB2_1 := B2.c1; have fB2 := B2.frozen; simp only [linkV])
      | (go_at_call 17; refine (hE _ s4 _ _ s5).mono ?_; rintro e w6 ⟨rfl, hb6⟩; replace h4 := thn h4 hb6; clear hb6 s4 s5))
    all_goals
      go_wp2
      go_ret
      exact ⟨rfl, h4⟩
  · rw [szOfPacket_neg hn] at hz
    simp only [linkV] at hz
    skip
    go_enter Try.func5, Try.ntmps5
    go_wp2_with fail; refine (hz _).mono ?_; rintro e w0 ⟨rfl, hbw0⟩; replace B1 := Blk.belowOf B1 hbw0 (by repeat (first | exact B1 | apply Blk.alloc | apply Blk.drew | (apply Blk.far; rotate_left; (first | assumption | exact Ne.symm (by assumption))) | apply Blk.set_))
    go_wp2
    go_ret
    exact ⟨rfl, thn h0 hbw0⟩
end Go.Proofs.Ytenbpaoelipifaa
