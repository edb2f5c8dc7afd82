/- The walk of FnServeLine. -/
import Derived.Test.YtffhcifeccdfjaaDoorDDoor
import Derived.Test.YtffhcifeccdfjaaDoorMaskL
import Derived.Test.YtffhcifeccdfjaaDoorNear
import Derived.Test.YtffhcifeccdfjaaDoorAlive
namespace Go.Proofs.YtffhcifeccdfjaaDoor
set_option linter.unusedVariables false
set_option linter.unusedSimpArgs false
open Go.RowKit

set_option maxHeartbeats 2000000 in
theorem lawServeLine (A : Option Addr) (n c : Nat) (zs : List Int) (w : World) (hT : Tab w) (h : Code w A n c zs) :
    Calls Tryd.prog 4 #[.slice A n c] w fun e w' => .returned (.bool true) = e ∧ Below w.heap.size w w' := by
  have hle := h.le
  have hmax := h.max
  by_cases hn : n ≤ 1048576
  · have hdraw := drawServeLine_any A n c zs w h
    clear h
    go_enter Tryd.func4, Tryd.ntmps4
    go_wp2_with fail
    refine hdraw.mono ?_
    rintro e w1 ⟨⟨a, b⟩, rfl, hb⟩
    clear hdraw
    have hT1 := hT.below hb
    have hI := fun W (hW : Below w1.heap.size w1 W) => serveLine_any a b W (hT1.below hW)
    have hS := fun W => specServeLine_any a b W
    have hN := fun W (hW : Below w1.heap.size w1 W) => nextLine_any a b W (hT1.below hW)
    have hR := fun a' n W => raiseLine_any a' b n W
    have B1 := Blk.new w1 24 #[.int .i64 a, .int .i64 b]
    simp only [lnV]
    skip
    skip
    cases hl : linesOk a b
    · have hs : serveL a b = (0, 0, -1) := by simp [serveL, hl]
      rw [hs] at hI hS
      clear hs hN hR
      simp only [serveV] at hI hS
      have hab : ¬ a = 0 ∨ (a = 0 ∧ ¬ b = 0) := by
        by_cases ha : a = 0
        · exact .inr ⟨ha, fun hb => by rw [ha, hb] at hl; cases hl⟩
        · exact .inl ha
      clear hl
      rcases hab with ha | ⟨ha, hb'⟩
      · have ha1 : ((0 : Int) == a) = false := by rw [beq_eq_false_iff_ne]; omega
        have ha2 : ¬ (0 : Int) = a := by omega
        go_wp2_with fail
        refine (hI _ (alo (Below.refl _ _) _)).mono ?_; rintro e w2 ⟨rfl, hb2⟩
        replace B1 := (B1.below hb2).alloc (.cells #[.int .i64 0, .int .i64 0] 24)
        have B2 := Blk.new w2 24 #[.int .i64 0, .int .i64 0]
        have hB2 := alo (thn (alo hb _) hb2) (.cells #[.int .i64 0, .int .i64 0] 24)
        skip
        have cB1_0 := B1.c0; have cB1_1 := B1.c1; have fB1 := B1.frozen; have cB2_0 := B2.c0; have cB2_1 := B2.c1; have fB2 := B2.frozen
        go_wp2_with fail
        refine (hS _).mono ?_; rintro e w3 ⟨rfl, hb3⟩
        clear cB1_0 cB1_1 fB1 cB2_0 cB2_1 fB2
        replace B1 := (B1.below hb3).alloc (.cells #[.int .i64 0, .int .i64 0] 24)
        replace B2 := (B2.below hb3).alloc (.cells #[.int .i64 0, .int .i64 0] 24)
        have B3 := Blk.new w3 24 #[.int .i64 0, .int .i64 0]
        have hB3 := alo (thn hB2 hb3) (.cells #[.int .i64 0, .int .i64 0] 24)
        skip
        have cB1_0 := B1.c0; have cB1_1 := B1.c1; have fB1 := B1.frozen; have cB2_0 := B2.c0; have cB2_1 := B2.c1; have fB2 := B2.frozen; have cB3_0 := B3.c0; have cB3_1 := B3.c1; have fB3 := B3.frozen
        go_wp2_with fail
        refine (alive_any _).mono ?_; rintro e w4 ⟨rfl, hb4⟩
        go_wp2
        go_ret
        exact ⟨rfl, thn hB3 hb4⟩
      · subst ha
        have hb1 : ((0 : Int) == b) = false := by rw [beq_eq_false_iff_ne]; omega
        have hb0 : ¬ (0 : Int) = b := by omega
        go_wp2_with fail
        refine (hI _ (alo (Below.refl _ _) _)).mono ?_; rintro e w2 ⟨rfl, hb2⟩
        replace B1 := (B1.below hb2).alloc (.cells #[.int .i64 0, .int .i64 0] 24)
        have B2 := Blk.new w2 24 #[.int .i64 0, .int .i64 0]
        have hB2 := alo (thn (alo hb _) hb2) (.cells #[.int .i64 0, .int .i64 0] 24)
        skip
        have cB1_0 := B1.c0; have cB1_1 := B1.c1; have fB1 := B1.frozen; have cB2_0 := B2.c0; have cB2_1 := B2.c1; have fB2 := B2.frozen
        go_wp2_with fail
        refine (hS _).mono ?_; rintro e w3 ⟨rfl, hb3⟩
        clear cB1_0 cB1_1 fB1 cB2_0 cB2_1 fB2
        replace B1 := (B1.below hb3).alloc (.cells #[.int .i64 0, .int .i64 0] 24)
        replace B2 := (B2.below hb3).alloc (.cells #[.int .i64 0, .int .i64 0] 24)
        have B3 := Blk.new w3 24 #[.int .i64 0, .int .i64 0]
        have hB3 := alo (thn hB2 hb3) (.cells #[.int .i64 0, .int .i64 0] 24)
        skip
        have cB1_0 := B1.c0; have cB1_1 := B1.c1; have fB1 := B1.frozen; have cB2_0 := B2.c0; have cB2_1 := B2.c1; have fB2 := B2.frozen; have cB3_0 := B3.c0; have cB3_1 := B3.c1; have fB3 := B3.frozen
        go_wp2_with fail
        refine (alive_any _).mono ?_; rintro e w4 ⟨rfl, hb4⟩
        go_wp2
        go_ret
        exact ⟨rfl, thn hB3 hb4⟩
    · rcases nextL_cases a b with ⟨e1, -⟩ | ⟨k, hk, e1, -, hr, -⟩
      · have hs : serveL a b = (a, b, -1) := by simp [serveL, hl, e1]
        rw [hs] at hI hS
        clear hs hN hR hl e1
        simp only [serveV] at hI hS
        go_wp2_with fail
        refine (hI _ (alo (Below.refl _ _) _)).mono ?_; rintro e w2 ⟨rfl, hb2⟩
        replace B1 := (B1.below hb2).alloc (.cells #[.int .i64 a, .int .i64 b] 24)
        have B2 := Blk.new w2 24 #[.int .i64 a, .int .i64 b]
        have hB2 := alo (thn (alo hb _) hb2) (.cells #[.int .i64 a, .int .i64 b] 24)
        skip
        have cB1_0 := B1.c0; have cB1_1 := B1.c1; have fB1 := B1.frozen; have cB2_0 := B2.c0; have cB2_1 := B2.c1; have fB2 := B2.frozen
        go_wp2_with fail
        refine (hS _).mono ?_; rintro e w3 ⟨rfl, hb3⟩
        clear cB1_0 cB1_1 fB1 cB2_0 cB2_1 fB2
        replace B1 := (B1.below hb3).alloc (.cells #[.int .i64 a, .int .i64 b] 24)
        replace B2 := (B2.below hb3).alloc (.cells #[.int .i64 a, .int .i64 b] 24)
        have B3 := Blk.new w3 24 #[.int .i64 a, .int .i64 b]
        have hB3 := alo (thn hB2 hb3) (.cells #[.int .i64 a, .int .i64 b] 24)
        skip
        have cB1_0 := B1.c0; have cB1_1 := B1.c1; have fB1 := B1.frozen; have cB2_0 := B2.c0; have cB2_1 := B2.c1; have fB2 := B2.frozen; have cB3_0 := B3.c0; have cB3_1 := B3.c1; have fB3 := B3.frozen
        go_wp2_with fail
        refine (alive_any _).mono ?_; rintro e w4 ⟨rfl, hb4⟩
        go_wp2
        go_ret
        exact ⟨rfl, thn hB3 hb4⟩
      · obtain ⟨s1, s2, -, s4⟩ := served hl hk hr
        have hs : serveL a b = (bits .andNot .i64 a (2 ^ k), b, (k : Int)) := by simp [serveL, hl, e1]
        rw [hs] at hI hS
        rw [e1] at hN
        replace hR := fun W => hR (bits .andNot .i64 a (2 ^ k)) (k : Int) W
        have hrs : raiseL (bits .andNot .i64 a (2 ^ k)) b (k : Int) = (a, b) := by
          unfold raiseL
          rw [if_pos ⟨s1, inB_true.2 (by omega)⟩, Int.toNat_natCast, s4]
        rw [hrs] at hR
        clear hs hrs e1 s1 s4 hr hl
        generalize bits .andNot .i64 a (2 ^ k) = a2 at *
        simp only [serveV, lnV] at hI hS hR
        have hk0 : ¬ (k : Int) < 0 := by omega
        go_wp2_with fail
        refine (hI _ (alo (Below.refl _ _) _)).mono ?_; rintro e w2 ⟨rfl, hb2⟩
        replace B1 := (B1.below hb2).alloc (.cells #[.int .i64 a2, .int .i64 b] 24)
        have B2 := Blk.new w2 24 #[.int .i64 a2, .int .i64 b]
        have hB2 := alo (thn (alo hb _) hb2) (.cells #[.int .i64 a2, .int .i64 b] 24)
        skip
        have cB1_0 := B1.c0; have cB1_1 := B1.c1; have fB1 := B1.frozen; have cB2_0 := B2.c0; have cB2_1 := B2.c1; have fB2 := B2.frozen
        go_wp2_with fail
        refine (hS _).mono ?_; rintro e w3 ⟨rfl, hb3⟩
        clear cB1_0 cB1_1 fB1 cB2_0 cB2_1 fB2
        replace B1 := (B1.below hb3).alloc (.cells #[.int .i64 a2, .int .i64 b] 24)
        replace B2 := (B2.below hb3).alloc (.cells #[.int .i64 a2, .int .i64 b] 24)
        have B3 := Blk.new w3 24 #[.int .i64 a2, .int .i64 b]
        have hB3 := alo (thn hB2 hb3) (.cells #[.int .i64 a2, .int .i64 b] 24)
        skip
        have cB1_0 := B1.c0; have cB1_1 := B1.c1; have fB1 := B1.frozen; have cB2_0 := B2.c0; have cB2_1 := B2.c1; have fB2 := B2.frozen; have cB3_0 := B3.c0; have cB3_1 := B3.c1; have fB3 := B3.frozen
        have hBw : Below w1.heap.size w1 (w3.alloc (.cells #[.int .i64 a2, .int .i64 b] 24)) := alo (thn (alo (thn (alo (Below.refl _ _) _) hb2) _) hb3) _
        go_wp2_with fail
        generalize w3.alloc (.cells #[.int .i64 a2, .int .i64 b] 24) = W3 at *
        have hN' := fun x : Near W3 => hN x.W (thn hBw x.b)
        clear cB1_0 cB1_1 fB1 cB2_0 cB2_1 fB2 cB3_0 cB3_1 fB3
        have qB1_0 := fun x => (B1.near x).c0; have qB1_1 := fun x => (B1.near x).c1; have qB2_0 := fun x => (B2.near x).c0; have qB2_1 := fun x => (B2.near x).c1; have qB3_0 := fun x => (B3.near x).c0; have qB3_1 := fun x => (B3.near x).c1; refine wp_region_near (by kernel_rfl) (by kernel_rfl) ?_; (repeat (go_big_quiet_step (first | (go_at_call 8; with_reducible exact near_call (hN' _)) | (go_at_call 14; with_reducible exact near_call (hR _))))); refine wpQuiet_nil ?_; intro xN; have hbw5 := xN.b; generalize xN.W = w5 at hbw5 ⊢; clear xN; clear qB1_0 qB1_1; replace B1 := B1.below hbw5; clear qB2_0 qB2_1; replace B2 := B2.below hbw5; clear qB3_0 qB3_1; replace B3 := B3.below hbw5
        go_wp2
        go_ret
        exact ⟨rfl, thn hB3 hbw5⟩
  · clear h
    go_enter Tryd.func4, Tryd.ntmps4
    go_wp2
    go_ret
    exact ⟨rfl, Below.refl _ _⟩
end Go.Proofs.YtffhcifeccdfjaaDoor
