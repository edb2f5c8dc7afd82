/- The walks of FnExactTransferPart, FnExactTransferAllowed. -/
import Derived.Test.YtenbpaoelipifaaLawExWAt
import Derived.Test.YtenbpaoelipifaaSPart
import Derived.Deep.RegionWith
namespace Go.Proofs.Ytenbpaoelipifaa
open Go.RowKit

theorem toTransfer_any (p q : Int) (z : Bool) (w : World) : Calls Try.prog 26 #[trCells (p, q, z)] w fun e w' => .returned (trCells (p, q, z)) = e ∧ Below w.heap.size w w' := by
  simp only [trCells]
  go_enter Try.func26, Try.ntmps26
  go_wp2
  exact bodyPost_ret (v := trCells (p, q, z)) (by simp [results, Try.results26, go_sem, trCells]) rfl ⟨rfl, (by repeat (first | exact Below.refl _ _ | assumption | apply alo | (apply Below.setCell; rotate_left; (first | assumption | exact Nat.le_refl _ | (simp only []; omega))) | apply Below.drew | apply belowDrewN | (refine thn ?_ (by assumption))))⟩

set_option maxHeartbeats 2000000 in
theorem lawExactTransferPart (A : Option Addr) (n c : Nat) (xs : List Win) (p q : Int) (z : Bool) (w : World) (hs : Sl w 3 Win.cells A n c xs) :
    Calls Try.prog 6 #[.slice A n c, trCells (p, q, z)] w fun e w' => .returned (.bool true) = e ∧ Below w.heap.size w w' := by
  have hle := hs.le
  have hmax := hs.max
  have hz := fun W => szWindowS_any A n c 1048576 (by omega) (by omega) W
  have hT := fun W => toTransfer_any p q z W
  have hS := fun W g h => specTransferPart_any (some ⟨g, 0, none⟩) n n xs p q z W h
  have hI := fun W g h => transferPart_any (some ⟨g, 0, none⟩) n n xs p q z W h
  simp only [trCells] at hT hS hI ⊢
  generalize trPart xs p q z = v at *
  have h0 := alo (Below.refl w.heap.size w) (.cells #[.int .i64 p, .int .i64 q, .bool z] 42)
  skip
  have B1 := Blk.new w 42 #[.int .i64 p, .int .i64 q, .bool z]
  by_cases hn : n ≤ 1048576
  · rw [szOf_pos hn] at hz
    have hW := fun W hW => toWindowS_any A n c xs hn W (hs.below hW)
    have hone := fun W g (B : Blk W g 82 (xs.flatMap Win.cells).toArray) => show Sl W 3 Win.cells (some ⟨g, 0, none⟩) n n xs by have := Sl.of_blk B encW (by rw [hs.len]; omega); rw [hs.len] at this; exact this
    go_enter Try.func6, Try.ntmps6
    go_wp2_with fail; refine (hz _).mono ?_; rintro e w' ⟨rfl, rfl⟩
    have cB1_0 := B1.c0; have cB1_1 := B1.c1; have cB1_2 := B1.c2; have fB1 := B1.frozen
    go_wp2_with fail
    go_region_with (first
      | (go_at_call 20; refine (hW _ (by repeat (first | exact h0 | apply Below.drew))).mono ?_; rintro e w1 ⟨g1, rfl, Bg1, lg1, hb1⟩; have s1 := hone _ _ Bg1; clear Bg1; have h1 : Below w.heap.size w w1 := thn (by repeat (first | exact h0 | apply Below.drew)) hb1; replace B1 := Blk.belowOf B1 hb1 (by repeat (first | exact B1 | apply Blk.drew)); clear hb1; clear h0; have h0 := h1; clear h1; have cB1_0 := B1.c0; have cB1_1 := B1.c1; have cB1_2 := B1.c2; have fB1 := B1.frozen; simp only [whole])
      | (go_at_call 26; refine (hT _).mono ?_; rintro e w2 ⟨rfl, hb2⟩; have h2 : Below w.heap.size w w2 := thn (by repeat (first | exact h0 | apply Below.drew)) hb2; (try replace s1 := s1.below hb2); replace B1 := Blk.belowOf B1 hb2 (by repeat (first | exact B1 | apply Blk.drew)); clear hb2; clear h0; have h0 := h2; clear h2; have cB1_0 := B1.c0; have cB1_1 := B1.c1; have cB1_2 := B1.c2; have fB1 := B1.frozen)
      | (go_at_call 25; refine (hS _ _ s1).mono ?_; rintro e w3 ⟨rfl, hb3⟩; have h3 := thn h0 hb3; replace B1 := Blk.belowOf B1 hb3 B1; clear hb3 s1 h0; have h0 := h3; clear h3; have cB1_0 := B1.c0; have cB1_1 := B1.c1; have cB1_2 := B1.c2; have fB1 := B1.frozen))
    all_goals
      go_wp2_with fail
      refine (hW _ h0).mono ?_
      rintro e w4 ⟨g2, rfl, Bg2, lg2, hb4⟩
      have s2 := hone _ _ Bg2
      replace h0 := thn h0 hb4
      replace B1 := B1.below hb4
      clear Bg2 hb4
      simp only [whole]
      have d0 := B1.c0
      have d1 := B1.c1
      have d2 := B1.c2
      go_wp2_with fail; refine (hT _).mono ?_; rintro e w5 ⟨rfl, hbw5⟩; replace B1 := Blk.belowOf B1 hbw5 (by repeat (first | exact B1 | apply Blk.alloc | apply Blk.drew | (apply Blk.far; rotate_left; (first | assumption | exact Ne.symm (by assumption))) | apply Blk.set_))
      replace h0 := thn h0 hbw5
      replace s2 := s2.below hbw5
      go_wp2_with fail
      refine (hI _ _ s2).mono ?_
      rintro e w6 ⟨rfl, hb6⟩
      replace h0 := thn h0 hb6
      replace s2 := s2.below hb6
      clear hb6 B1
      go_wp2_with fail
      refine (hW _ h0).mono ?_
      rintro e w7 ⟨g3, rfl, Bg3, lg3, hb7⟩
      have s3 := hone _ _ Bg3
      replace h0 := thn h0 hb7
      replace s2 := s2.below hb7
      clear Bg3 hb7
      simp only [whole]
      have hE := eqWindowS_any _ _ _ _ _ xs _ s2 s3
      go_wp2_with fail
      refine hE.mono ?_
      rintro e w8 ⟨rfl, hb8⟩
      go_wp2
      go_ret
      exact ⟨rfl, thn h0 hb8⟩
  · rw [szOf_neg hn] at hz
    go_enter Try.func6, Try.ntmps6
    go_wp2_with fail; refine (hz _).mono ?_; rintro e w' ⟨rfl, rfl⟩
    go_wp2
    go_ret
    exact ⟨rfl, h0⟩
set_option maxHeartbeats 2000000 in
theorem lawExactTransferAllowed (A : Option Addr) (n c : Nat) (xs : List Win) (p q : Int) (z : Bool) (w : World) (hs : Sl w 3 Win.cells A n c xs) :
    Calls Try.prog 7 #[.slice A n c, trCells (p, q, z)] w fun e w' => .returned (.bool true) = e ∧ Below w.heap.size w w' := by
  have hle := hs.le
  have hmax := hs.max
  have hz := fun W => szWindowS_any A n c 1048576 (by omega) (by omega) W
  have hT := fun W => toTransfer_any p q z W
  have hS := fun W g h => specTransferAllowed_any (some ⟨g, 0, none⟩) n n xs p q z W h
  have hI := fun W g h => transferAllowed_any (some ⟨g, 0, none⟩) n n xs p q z W h
  simp only [trCells] at hT hS hI ⊢
  generalize trAllowed xs p q z = v at *
  have h0 := alo (Below.refl w.heap.size w) (.cells #[.int .i64 p, .int .i64 q, .bool z] 42)
  skip
  have B1 := Blk.new w 42 #[.int .i64 p, .int .i64 q, .bool z]
  by_cases hn : n ≤ 1048576
  · rw [szOf_pos hn] at hz
    have hW := fun W hW => toWindowS_any A n c xs hn W (hs.below hW)
    have hone := fun W g (B : Blk W g 82 (xs.flatMap Win.cells).toArray) => show Sl W 3 Win.cells (some ⟨g, 0, none⟩) n n xs by have := Sl.of_blk B encW (by rw [hs.len]; omega); rw [hs.len] at this; exact this
    go_enter Try.func7, Try.ntmps7
    go_wp2_with fail; refine (hz _).mono ?_; rintro e w' ⟨rfl, rfl⟩
    have cB1_0 := B1.c0; have cB1_1 := B1.c1; have cB1_2 := B1.c2; have fB1 := B1.frozen
    go_wp2_with fail
    go_region_with (first
      | (go_at_call 20; refine (hW _ (by repeat (first | exact h0 | apply Below.drew))).mono ?_; rintro e w1 ⟨g1, rfl, Bg1, lg1, hb1⟩; have s1 := hone _ _ Bg1; clear Bg1; have h1 : Below w.heap.size w w1 := thn (by repeat (first | exact h0 | apply Below.drew)) hb1; replace B1 := Blk.belowOf B1 hb1 (by repeat (first | exact B1 | apply Blk.drew)); clear hb1; clear h0; have h0 := h1; clear h1; have cB1_0 := B1.c0; have cB1_1 := B1.c1; have cB1_2 := B1.c2; have fB1 := B1.frozen; simp only [whole])
      | (go_at_call 26; refine (hT _).mono ?_; rintro e w2 ⟨rfl, hb2⟩; have h2 : Below w.heap.size w w2 := thn (by repeat (first | exact h0 | apply Below.drew)) hb2; (try replace s1 := s1.below hb2); replace B1 := Blk.belowOf B1 hb2 (by repeat (first | exact B1 | apply Blk.drew)); clear hb2; clear h0; have h0 := h2; clear h2; have cB1_0 := B1.c0; have cB1_1 := B1.c1; have cB1_2 := B1.c2; have fB1 := B1.frozen)
      | (go_at_call 28; refine (hS _ _ s1).mono ?_; rintro e w3 ⟨rfl, hb3⟩; have h3 := thn h0 hb3; replace B1 := Blk.belowOf B1 hb3 B1; clear hb3 s1 h0; have h0 := h3; clear h3; have cB1_0 := B1.c0; have cB1_1 := B1.c1; have cB1_2 := B1.c2; have fB1 := B1.frozen))
    all_goals
      go_wp2_with fail
      refine (hW _ h0).mono ?_
      rintro e w4 ⟨g2, rfl, Bg2, lg2, hb4⟩
      have s2 := hone _ _ Bg2
      replace h0 := thn h0 hb4
      replace B1 := B1.below hb4
      clear Bg2 hb4
      simp only [whole]
      have d0 := B1.c0
      have d1 := B1.c1
      have d2 := B1.c2
      go_wp2_with fail; refine (hT _).mono ?_; rintro e w5 ⟨rfl, hbw5⟩; replace B1 := Blk.belowOf B1 hbw5 (by repeat (first | exact B1 | apply Blk.alloc | apply Blk.drew | (apply Blk.far; rotate_left; (first | assumption | exact Ne.symm (by assumption))) | apply Blk.set_))
      replace h0 := thn h0 hbw5
      replace s2 := s2.below hbw5
      go_wp2_with fail
      refine (hI _ _ s2).mono ?_
      rintro e w6 ⟨rfl, hb6⟩
      replace h0 := thn h0 hb6
      replace s2 := s2.below hb6
      clear hb6 B1
      go_wp2_with fail
      refine (hW _ h0).mono ?_
      rintro e w7 ⟨g3, rfl, Bg3, lg3, hb7⟩
      have s3 := hone _ _ Bg3
      replace h0 := thn h0 hb7
      replace s2 := s2.below hb7
      clear Bg3 hb7
      simp only [whole]
      have hE := eqWindowS_any _ _ _ _ _ xs _ s2 s3
      go_wp2_with fail
      refine hE.mono ?_
      rintro e w8 ⟨rfl, hb8⟩
      go_wp2
      go_ret
      exact ⟨rfl, thn h0 hb8⟩
  · rw [szOf_neg hn] at hz
    go_enter Try.func7, Try.ntmps7
    go_wp2_with fail; refine (hz _).mono ?_; rintro e w' ⟨rfl, rfl⟩
    go_wp2
    go_ret
    exact ⟨rfl, h0⟩
end Go.Proofs.Ytenbpaoelipifaa
