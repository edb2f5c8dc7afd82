/- The walk of FnNextLine. -/
import Derived.Test.YtffhcifeccdfjaaDoorDDoor
import Derived.Test.YtffhcifeccdfjaaDoorMaskL
import Derived.Test.YtffhcifeccdfjaaDoorAlive
namespace Go.Proofs.YtffhcifeccdfjaaDoor
set_option linter.unusedVariables false
set_option linter.unusedSimpArgs false
open Go.RowKit

set_option maxHeartbeats 2000000 in
theorem lawNextLine (A : Option Addr) (n c : Nat) (zs : List Int) (w : World) (hT : Tab w) (h : Code w A n c zs) :
    Calls Tryd.prog 3 #[.slice A n c] w fun e w' => .returned (.bool true) = e ∧ Below w.heap.size w w' := by
  have hle := h.le
  have hmax := h.max
  by_cases hn : n ≤ 1048576
  · have hdraw := drawNextLine_any A n c zs w h
    clear h
    go_enter Tryd.func3, Tryd.ntmps3
    go_wp2_with fail
    refine hdraw.mono ?_
    rintro e w1 ⟨⟨a, b⟩, rfl, hb⟩
    clear hdraw
    have hT1 := hT.below hb
    have hI := fun W (hW : Below w1.heap.size w1 W) => nextLine_any a b W (hT1.below hW)
    have hS := fun W => specNextLine_any a b W
    have B1 := Blk.new w1 24 #[.int .i64 a, .int .i64 b]
    simp only [lnV]
    skip
    skip
    rcases nextL_cases a b with ⟨e1, -⟩ | ⟨k, hk, e1, hl, -, h1, h2, -⟩
    · rw [e1] at hI hS
      clear e1
      go_wp2_with fail
      refine (hI _ (alo (Below.refl _ _) _)).mono ?_; rintro e w2 ⟨rfl, hb2⟩
      replace B1 := B1.below hb2
      have cB1_0 := B1.c0; have cB1_1 := B1.c1; have fB1 := B1.frozen
      go_wp2_with fail
      refine (hS _).mono ?_; rintro e w3 ⟨rfl, hb3⟩
      have hB := thn (thn (alo hb _) hb2) hb3
      go_wp2_with fail
      refine (alive_any _).mono ?_; rintro e w4 ⟨rfl, hb4⟩
      go_wp2
      go_ret
      exact ⟨rfl, thn hB hb4⟩
    · obtain ⟨h3, h4, -⟩ := ready_in a b hl
      have hrd : bits .andNot .i64 a b = ready a b := rfl
      generalize ready a b = x at *
      rw [e1] at hI hS
      clear e1 hl
      rcases (show k = 0 ∨ k = 1 ∨ k = 2 ∨ k = 3 ∨ k = 4 ∨ k = 5 ∨ k = 6 ∨ k = 7 by omega) with hq | hq | hq | hq | hq | hq | hq | hq
      · obtain rfl : k = 0 := hq
        have h1' : x % 1 = 0 := h1
        have h2' : x / 1 % 2 = 1 := h2
        clear h1 h2
        go_wp2_with fail
        refine (hI _ (alo (Below.refl _ _) _)).mono ?_; rintro e w2 ⟨rfl, hb2⟩
        replace B1 := B1.below hb2
        have cB1_0 := B1.c0; have cB1_1 := B1.c1; have fB1 := B1.frozen
        go_wp2_with fail
        refine (hS _).mono ?_; rintro e w3 ⟨rfl, hb3⟩
        clear cB1_0 cB1_1 fB1
        replace B1 := B1.below hb3
        have cB1_0 := B1.c0; have cB1_1 := B1.c1; have fB1 := B1.frozen
        have hB := thn (thn (alo hb _) hb2) hb3
        go_wp2
        go_ret
        exact ⟨rfl, hB⟩
      · obtain rfl : k = 1 := hq
        have h1' : x % 2 = 0 := h1
        have h2' : x / 2 % 2 = 1 := h2
        clear h1 h2
        go_wp2_with fail
        refine (hI _ (alo (Below.refl _ _) _)).mono ?_; rintro e w2 ⟨rfl, hb2⟩
        replace B1 := B1.below hb2
        have cB1_0 := B1.c0; have cB1_1 := B1.c1; have fB1 := B1.frozen
        go_wp2_with fail
        refine (hS _).mono ?_; rintro e w3 ⟨rfl, hb3⟩
        clear cB1_0 cB1_1 fB1
        replace B1 := B1.below hb3
        have cB1_0 := B1.c0; have cB1_1 := B1.c1; have fB1 := B1.frozen
        have hB := thn (thn (alo hb _) hb2) hb3
        go_wp2
        go_ret
        exact ⟨rfl, hB⟩
      · obtain rfl : k = 2 := hq
        have h1' : x % 4 = 0 := h1
        have h2' : x / 4 % 2 = 1 := h2
        clear h1 h2
        go_wp2_with fail
        refine (hI _ (alo (Below.refl _ _) _)).mono ?_; rintro e w2 ⟨rfl, hb2⟩
        replace B1 := B1.below hb2
        have cB1_0 := B1.c0; have cB1_1 := B1.c1; have fB1 := B1.frozen
        go_wp2_with fail
        refine (hS _).mono ?_; rintro e w3 ⟨rfl, hb3⟩
        clear cB1_0 cB1_1 fB1
        replace B1 := B1.below hb3
        have cB1_0 := B1.c0; have cB1_1 := B1.c1; have fB1 := B1.frozen
        have hB := thn (thn (alo hb _) hb2) hb3
        go_wp2
        go_ret
        exact ⟨rfl, hB⟩
      · obtain rfl : k = 3 := hq
        have h1' : x % 8 = 0 := h1
        have h2' : x / 8 % 2 = 1 := h2
        clear h1 h2
        go_wp2_with fail
        refine (hI _ (alo (Below.refl _ _) _)).mono ?_; rintro e w2 ⟨rfl, hb2⟩
        replace B1 := B1.below hb2
        have cB1_0 := B1.c0; have cB1_1 := B1.c1; have fB1 := B1.frozen
        go_wp2_with fail
        refine (hS _).mono ?_; rintro e w3 ⟨rfl, hb3⟩
        clear cB1_0 cB1_1 fB1
        replace B1 := B1.below hb3
        have cB1_0 := B1.c0; have cB1_1 := B1.c1; have fB1 := B1.frozen
        have hB := thn (thn (alo hb _) hb2) hb3
        go_wp2
        go_ret
        exact ⟨rfl, hB⟩
      · obtain rfl : k = 4 := hq
        have h1' : x % 16 = 0 := h1
        have h2' : x / 16 % 2 = 1 := h2
        clear h1 h2
        go_wp2_with fail
        refine (hI _ (alo (Below.refl _ _) _)).mono ?_; rintro e w2 ⟨rfl, hb2⟩
        replace B1 := B1.below hb2
        have cB1_0 := B1.c0; have cB1_1 := B1.c1; have fB1 := B1.frozen
        go_wp2_with fail
        refine (hS _).mono ?_; rintro e w3 ⟨rfl, hb3⟩
        clear cB1_0 cB1_1 fB1
        replace B1 := B1.below hb3
        have cB1_0 := B1.c0; have cB1_1 := B1.c1; have fB1 := B1.frozen
        have hB := thn (thn (alo hb _) hb2) hb3
        go_wp2
        go_ret
        exact ⟨rfl, hB⟩
      · obtain rfl : k = 5 := hq
        have h1' : x % 32 = 0 := h1
        have h2' : x / 32 % 2 = 1 := h2
        clear h1 h2
        go_wp2_with fail
        refine (hI _ (alo (Below.refl _ _) _)).mono ?_; rintro e w2 ⟨rfl, hb2⟩
        replace B1 := B1.below hb2
        have cB1_0 := B1.c0; have cB1_1 := B1.c1; have fB1 := B1.frozen
        go_wp2_with fail
        refine (hS _).mono ?_; rintro e w3 ⟨rfl, hb3⟩
        clear cB1_0 cB1_1 fB1
        replace B1 := B1.below hb3
        have cB1_0 := B1.c0; have cB1_1 := B1.c1; have fB1 := B1.frozen
        have hB := thn (thn (alo hb _) hb2) hb3
        go_wp2
        go_ret
        exact ⟨rfl, hB⟩
      · obtain rfl : k = 6 := hq
        have h1' : x % 64 = 0 := h1
        have h2' : x / 64 % 2 = 1 := h2
        clear h1 h2
        go_wp2_with fail
        refine (hI _ (alo (Below.refl _ _) _)).mono ?_; rintro e w2 ⟨rfl, hb2⟩
        replace B1 := B1.below hb2
        have cB1_0 := B1.c0; have cB1_1 := B1.c1; have fB1 := B1.frozen
        go_wp2_with fail
        refine (hS _).mono ?_; rintro e w3 ⟨rfl, hb3⟩
        clear cB1_0 cB1_1 fB1
        replace B1 := B1.below hb3
        have cB1_0 := B1.c0; have cB1_1 := B1.c1; have fB1 := B1.frozen
        have hB := thn (thn (alo hb _) hb2) hb3
        go_wp2
        go_ret
        exact ⟨rfl, hB⟩
      · obtain rfl : k = 7 := hq
        have h1' : x % 128 = 0 := h1
        have h2' : x / 128 % 2 = 1 := h2
        clear h1 h2
        go_wp2_with fail
        refine (hI _ (alo (Below.refl _ _) _)).mono ?_; rintro e w2 ⟨rfl, hb2⟩
        replace B1 := B1.below hb2
        have cB1_0 := B1.c0; have cB1_1 := B1.c1; have fB1 := B1.frozen
        go_wp2_with fail
        refine (hS _).mono ?_; rintro e w3 ⟨rfl, hb3⟩
        clear cB1_0 cB1_1 fB1
        replace B1 := B1.below hb3
        have cB1_0 := B1.c0; have cB1_1 := B1.c1; have fB1 := B1.frozen
        have hB := thn (thn (alo hb _) hb2) hb3
        go_wp2
        go_ret
        exact ⟨rfl, hB⟩
  · clear h
    go_enter Tryd.func3, Tryd.ntmps3
    go_wp2
    go_ret
    exact ⟨rfl, Below.refl _ _⟩
end Go.Proofs.YtffhcifeccdfjaaDoor
