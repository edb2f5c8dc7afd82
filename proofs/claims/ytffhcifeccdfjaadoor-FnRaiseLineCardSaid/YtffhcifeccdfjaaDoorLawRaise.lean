/- The walk of FnRaiseLine. -/
import Derived.Test.YtffhcifeccdfjaaDoorDDoor
import Derived.Test.YtffhcifeccdfjaaDoorMaskL
import Derived.Test.YtffhcifeccdfjaaDoorNear
import Derived.Test.YtffhcifeccdfjaaDoorList
import Derived.Test.YtffhcifeccdfjaaDoorAlive
namespace Go.Proofs.YtffhcifeccdfjaaDoor
set_option linter.unusedVariables false
set_option linter.unusedSimpArgs false
open Go.RowKit

theorem found_step {l : List Int} {kk : Nat} {y n : Int} {v : Bool} (h : v = true ↔ ∃ j, j < kk ∧ l[j]? = some n) (hy : l[kk]? = some y) : ((v || decide (y = n)) = true ↔ ∃ j, j < kk + 1 ∧ l[j]? = some n) := by
  rw [Bool.or_eq_true, h, decide_eq_true_eq]
  constructor
  · rintro (⟨j, hj, e⟩ | e)
    · exact ⟨j, by omega, e⟩
    · exact ⟨kk, by omega, by rw [hy, e]⟩
  · rintro ⟨j, hj, e⟩
    by_cases h1 : j = kk
    · subst h1
      rw [hy] at e
      injection e with e
      exact .inr e
    · exact .inl ⟨j, by omega, e⟩
set_option maxHeartbeats 2000000 in
theorem lawRaiseLine (A : Option Addr) (n c : Nat) (zs : List Int) (w : World) (hT : Tab w) (h : Code w A n c zs) :
    Calls Tryd.prog 6 #[.slice A n c] w fun e w' => .returned (.bool true) = e ∧ Below w.heap.size w w' := by
  have hle := h.le
  have hmax := h.max
  by_cases hn : n ≤ 1048576
  · have hdraw := drawRaiseLine_any A n c zs w h
    clear h
    go_enter Tryd.func6, Tryd.ntmps6
    go_wp2_with fail
    refine hdraw.mono ?_
    rintro e w1 ⟨⟨⟨a, b⟩, z⟩, rfl, hz0, hz1, hb⟩
    clear hdraw
    simp only [] at hz0 hz1
    have hT1 := hT.below hb
    have hR := fun W => raiseLine_any a b z W
    have hQ := fun W => specRaiseLine_any a b z W
    have hV := fun W => specLinesValid_any a b W
    have B1 := Blk.new w1 24 #[.int .i64 a, .int .i64 b]
    simp only [rlV]
    skip
    skip
    cases hl : linesOk a b
    · have hs : raiseL a b z = (0, 0) := by unfold raiseL; rw [hl]; simp
      rw [hs] at hR hQ
      rw [hl] at hV
      clear hs hl
      simp only [lnV] at hR hQ
      go_wp2_with fail
      refine (hR _).mono ?_; rintro e w2 ⟨rfl, hb2⟩
      replace B1 := (B1.below hb2).alloc (.cells #[.int .i64 0, .int .i64 0] 24)
      have B2 := Blk.new w2 24 #[.int .i64 0, .int .i64 0]
      have hB2 := alo (thn (alo hb _) hb2) (.cells #[.int .i64 0, .int .i64 0] 24)
      skip
      have cB1_0 := B1.c0; have cB1_1 := B1.c1; have fB1 := B1.frozen; have cB2_0 := B2.c0; have cB2_1 := B2.c1; have fB2 := B2.frozen
      go_wp2_with fail
      generalize w2.alloc (.cells #[.int .i64 0, .int .i64 0] 24) = W2 at *
      clear cB1_0 cB1_1 fB1 cB2_0 cB2_1 fB2
      have qB1_0 := fun x => (B1.near x).c0; have qB1_1 := fun x => (B1.near x).c1; have qB2_0 := fun x => (B2.near x).c0; have qB2_1 := fun x => (B2.near x).c1; refine wp_region_near (by kernel_rfl) (by kernel_rfl) ?_; (repeat (go_big_quiet_step (first | (go_at_call 20; with_reducible exact near_call (hQ _))))); refine wpQuiet_nil ?_; intro xN; have hbw3 := xN.b; generalize xN.W = w3 at hbw3 ⊢; clear xN; clear qB1_0 qB1_1; replace B1 := B1.below hbw3; clear qB2_0 qB2_1; replace B2 := B2.below hbw3
      have cB1_0 := B1.c0; have cB1_1 := B1.c1; have fB1 := B1.frozen; have cB2_0 := B2.c0; have cB2_1 := B2.c1; have fB2 := B2.frozen
      go_wp2_with fail
      refine (hV _).mono ?_; rintro e w4 ⟨rfl, hb4⟩
      clear cB1_0 cB1_1 fB1 cB2_0 cB2_1 fB2
      replace B1 := B1.below hb4
      replace B2 := B2.below hb4
      have cB1_0 := B1.c0; have cB1_1 := B1.c1; have fB1 := B1.frozen; have cB2_0 := B2.c0; have cB2_1 := B2.c1; have fB2 := B2.frozen
      go_wp2_with fail
      refine (alive_any _).mono ?_; rintro e w5 ⟨rfl, hb5⟩
      go_wp2
      go_ret
      exact ⟨rfl, thn (thn (thn hB2 hbw3) hb4) hb5⟩
    · rw [hl] at hV
      rcases (show z = -1 ∨ z = 8 ∨ (0 ≤ z ∧ z ≤ 7) by omega) with rfl | rfl | hz
      · have hs : raiseL a b (-1) = (0, 0) := by unfold raiseL; rw [if_neg (fun h => absurd h.2 (by decide))]
        rw [hs] at hR hQ
        clear hs hl
        simp only [lnV] at hR hQ
        go_wp2_with fail
        refine (hR _).mono ?_; rintro e w2 ⟨rfl, hb2⟩
        replace B1 := (B1.below hb2).alloc (.cells #[.int .i64 0, .int .i64 0] 24)
        have B2 := Blk.new w2 24 #[.int .i64 0, .int .i64 0]
        have hB2 := alo (thn (alo hb _) hb2) (.cells #[.int .i64 0, .int .i64 0] 24)
        skip
        have cB1_0 := B1.c0; have cB1_1 := B1.c1; have fB1 := B1.frozen; have cB2_0 := B2.c0; have cB2_1 := B2.c1; have fB2 := B2.frozen
        go_wp2_with fail
        generalize w2.alloc (.cells #[.int .i64 0, .int .i64 0] 24) = W2 at *
        clear cB1_0 cB1_1 fB1 cB2_0 cB2_1 fB2
        have qB1_0 := fun x => (B1.near x).c0; have qB1_1 := fun x => (B1.near x).c1; have qB2_0 := fun x => (B2.near x).c0; have qB2_1 := fun x => (B2.near x).c1; refine wp_region_near (by kernel_rfl) (by kernel_rfl) ?_; (repeat (go_big_quiet_step (first | (go_at_call 20; with_reducible exact near_call (hQ _))))); refine wpQuiet_nil ?_; intro xN; have hbw3 := xN.b; generalize xN.W = w3 at hbw3 ⊢; clear xN; clear qB1_0 qB1_1; replace B1 := B1.below hbw3; clear qB2_0 qB2_1; replace B2 := B2.below hbw3
        have cB1_0 := B1.c0; have cB1_1 := B1.c1; have fB1 := B1.frozen; have cB2_0 := B2.c0; have cB2_1 := B2.c1; have fB2 := B2.frozen
        go_wp2_with fail
        refine (hV _).mono ?_; rintro e w4 ⟨rfl, hb4⟩
        clear cB1_0 cB1_1 fB1 cB2_0 cB2_1 fB2
        replace B1 := B1.below hb4
        replace B2 := B2.below hb4
        have cB1_0 := B1.c0; have cB1_1 := B1.c1; have fB1 := B1.frozen; have cB2_0 := B2.c0; have cB2_1 := B2.c1; have fB2 := B2.frozen
        go_wp2_with fail
        refine (alive_any _).mono ?_; rintro e w5 ⟨rfl, hb5⟩
        go_wp2
        go_ret
        exact ⟨rfl, thn (thn (thn hB2 hbw3) hb4) hb5⟩
      · have hs : raiseL a b 8 = (0, 0) := by unfold raiseL; rw [if_neg (fun h => absurd h.2 (by decide))]
        rw [hs] at hR hQ
        clear hs hl
        simp only [lnV] at hR hQ
        go_wp2_with fail
        refine (hR _).mono ?_; rintro e w2 ⟨rfl, hb2⟩
        replace B1 := (B1.below hb2).alloc (.cells #[.int .i64 0, .int .i64 0] 24)
        have B2 := Blk.new w2 24 #[.int .i64 0, .int .i64 0]
        have hB2 := alo (thn (alo hb _) hb2) (.cells #[.int .i64 0, .int .i64 0] 24)
        skip
        have cB1_0 := B1.c0; have cB1_1 := B1.c1; have fB1 := B1.frozen; have cB2_0 := B2.c0; have cB2_1 := B2.c1; have fB2 := B2.frozen
        go_wp2_with fail
        generalize w2.alloc (.cells #[.int .i64 0, .int .i64 0] 24) = W2 at *
        clear cB1_0 cB1_1 fB1 cB2_0 cB2_1 fB2
        have qB1_0 := fun x => (B1.near x).c0; have qB1_1 := fun x => (B1.near x).c1; have qB2_0 := fun x => (B2.near x).c0; have qB2_1 := fun x => (B2.near x).c1; refine wp_region_near (by kernel_rfl) (by kernel_rfl) ?_; (repeat (go_big_quiet_step (first | (go_at_call 20; with_reducible exact near_call (hQ _))))); refine wpQuiet_nil ?_; intro xN; have hbw3 := xN.b; generalize xN.W = w3 at hbw3 ⊢; clear xN; clear qB1_0 qB1_1; replace B1 := B1.below hbw3; clear qB2_0 qB2_1; replace B2 := B2.below hbw3
        have cB1_0 := B1.c0; have cB1_1 := B1.c1; have fB1 := B1.frozen; have cB2_0 := B2.c0; have cB2_1 := B2.c1; have fB2 := B2.frozen
        go_wp2_with fail
        refine (hV _).mono ?_; rintro e w4 ⟨rfl, hb4⟩
        clear cB1_0 cB1_1 fB1 cB2_0 cB2_1 fB2
        replace B1 := B1.below hb4
        replace B2 := B2.below hb4
        have cB1_0 := B1.c0; have cB1_1 := B1.c1; have fB1 := B1.frozen; have cB2_0 := B2.c0; have cB2_1 := B2.c1; have fB2 := B2.frozen
        go_wp2_with fail
        refine (alive_any _).mono ?_; rintro e w5 ⟨rfl, hb5⟩
        go_wp2
        go_ret
        exact ⟨rfl, thn (thn (thn hB2 hbw3) hb4) hb5⟩
      · obtain ⟨N, rfl⟩ := Int.eq_ofNat_of_zero_le hz.1
        obtain ⟨A0, B0, rfl, rfl, hA0, hB0⟩ := lines_nat hl
        have hN8 : N < 8 := by omega
        have hs : raiseL (A0 : Int) (B0 : Int) (N : Int) = (((A0 ||| 2 ^ N : Nat) : Int), (B0 : Int)) := by
          unfold raiseL
          rw [if_pos ⟨hl, inB_true.2 hz⟩, Int.toNat_natCast, or_pow A0 N hA0 hN8]
        rw [hs] at hR hQ
        obtain ⟨f1, f2⟩ := set_facts A0 hA0 N hN8
        have f3 := set_bit A0 N N
        have hs2 : raiseL ((A0 ||| 2 ^ N : Nat) : Int) (B0 : Int) (N : Int) = (((A0 ||| 2 ^ N : Nat) : Int), (B0 : Int)) := by
          unfold raiseL
          rw [if_pos ⟨linesOk_nat f1 hB0, inB_true.2 hz⟩, Int.toNat_natCast, or_pow _ N f1 hN8, f2]
        clear hs hl f2
        generalize (A0 ||| 2 ^ N) = A2 at *
        have hok2 := linesOk_nat f1 hB0
        have hR2 := fun W => raiseLine_any (A2 : Int) (B0 : Int) (N : Int) W
        rw [hs2] at hR2
        have hI2 := fun W => linesValid_any (A2 : Int) (B0 : Int) W
        rw [hok2] at hI2
        have hAll := fun W (hW : Below w1.heap.size w1 W) => serveAll_any (A2 : Int) (B0 : Int) hok2 W (hT1.below hW)
        have hrd : rdy (A2 : Int) (B0 : Int) N = decide ((B0 : Int) / 2 ^ N % 2 = 0) := by
          rw [rdy_nat, f3]
          simp only [decide_true, Bool.or_true, Bool.true_and]
          rw [Bool.eq_iff_iff, decide_eq_true_eq, bit_shift0, Bool.not_eq_true']
        clear hs2 f3 hok2
        simp only [lnV] at hR hQ hR2
        go_wp2_with fail
        refine (hR _).mono ?_; rintro e w2 ⟨rfl, hb2⟩
        replace B1 := (B1.below hb2).alloc (.cells #[.int .i64 (A2 : Int), .int .i64 (B0 : Int)] 24)
        have B2 := Blk.new w2 24 #[.int .i64 (A2 : Int), .int .i64 (B0 : Int)]
        have hB2 := alo (thn (alo hb _) hb2) (.cells #[.int .i64 (A2 : Int), .int .i64 (B0 : Int)] 24)
        skip
        have cB1_0 := B1.c0; have cB1_1 := B1.c1; have fB1 := B1.frozen; have cB2_0 := B2.c0; have cB2_1 := B2.c1; have fB2 := B2.frozen
        have hBx : Below w1.heap.size w1 (w2.alloc (.cells #[.int .i64 (A2 : Int), .int .i64 (B0 : Int)] 24)) := alo (thn (alo (Below.refl _ _) _) hb2) _
        go_wp2_with fail
        generalize w2.alloc (.cells #[.int .i64 (A2 : Int), .int .i64 (B0 : Int)] 24) = W2 at *
        clear cB1_0 cB1_1 fB1 cB2_0 cB2_1 fB2
        have qB1_0 := fun x => (B1.near x).c0; have qB1_1 := fun x => (B1.near x).c1; have qB2_0 := fun x => (B2.near x).c0; have qB2_1 := fun x => (B2.near x).c1; refine wp_region_near (by kernel_rfl) (by kernel_rfl) ?_; (repeat (go_big_quiet_step (first | (go_at_call 20; with_reducible exact near_call (hQ _))))); refine wpQuiet_nil ?_; intro xN; have hbw3 := xN.b; generalize xN.W = w3 at hbw3 ⊢; clear xN; clear qB1_0 qB1_1; replace B1 := B1.below hbw3; clear qB2_0 qB2_1; replace B2 := B2.below hbw3
        have cB1_0 := B1.c0; have cB1_1 := B1.c1; have fB1 := B1.frozen; have cB2_0 := B2.c0; have cB2_1 := B2.c1; have fB2 := B2.frozen
        have hn0 : ¬ (N : Int) < 0 := by omega
        have hn7 : ¬ (7 : Int) < (N : Int) := by omega
        go_wp2_with fail
        refine (hV _).mono ?_; rintro e w4 ⟨rfl, hb4⟩
        clear cB1_0 cB1_1 fB1 cB2_0 cB2_1 fB2
        replace B1 := B1.below hb4
        replace B2 := B2.below hb4
        have hB4 := thn (thn hB2 hbw3) hb4
        have hX4 := thn (thn hBx hbw3) hb4
        have cB1_0 := B1.c0; have cB1_1 := B1.c1; have fB1 := B1.frozen; have cB2_0 := B2.c0; have cB2_1 := B2.c1; have fB2 := B2.frozen
        go_wp2_with fail
        refine (hAll _ hX4).mono ?_
        rintro e w5 ⟨⟨A5, n5, c5, l5⟩, rfl, hok5, -, hi5, hb5⟩
        simp only [SV.v] at hok5 hi5 ⊢
        have hs5 := hok5.sl
        have hle5 := hs5.le
        have hmax5 := hs5.max
        have HF := Lib.hid (hi5 N hN8)
        rw [hrd] at HF
        clear cB1_0 cB1_1 fB1 cB2_0 cB2_1 fB2
        replace B1 := B1.below hb5
        replace B2 := B2.below hb5
        have hB5 := thn hB4 hb5
        clear hok5 hi5 hAll hR hQ hV
        go_wp2
        go_loopg [7, 8] n5 (fun gg s7 s8 wr => ∃ (kk : Nat) (v : Bool), kk ≤ n5 ∧ n5 - kk ≤ gg ∧ s7 = .bool v ∧ s8 = .int .i64 kk ∧ Aside (wr = w5) ∧ Aside (v = true ↔ ∃ j, j < kk ∧ l5[j]? = some (N : Int)))
        case atStart => exact ⟨0, false, Nat.zero_le _, by omega, rfl, rfl, (show Aside _ from rfl), (show Aside _ from ⟨fun h => (by cases h), fun ⟨j, hj, _⟩ => absurd hj (Nat.not_lt_zero _)⟩)⟩
        case round =>
          obtain ⟨kk, v, hkk, hg, rfl, rfl, HW, VV⟩ := hrel
          obtain rfl := HW.out
          by_cases hlt : kk < n5
          · have hltz : (kk : Int) < (n5 : Int) := by omega
            obtain ⟨g, o, rfl, y, hx, hc⟩ := hs5.nth hlt (Below.refl _ _)
            have hc0 := hc 0 _ rfl
            simp only [eI, Nat.add_zero, Nat.mul_one] at hc0
            have HS := Lib.hid (found_step (n := (N : Int)) VV.out hx)
            clear hc hx
            cases v
            · by_cases hy : y = (N : Int)
              · subst hy
                go_wp2
                go_roundg (n5 - (kk + 1))
                case measure => omega
                case rel => exact ⟨kk + 1, true, by omega, by omega, rfl, by go_num, (show Aside _ from rfl), (show Aside _ from by have := HS.out; simp at this; exact ⟨fun _ => this, fun _ => rfl⟩)⟩
              · have hy' : (y == (N : Int)) = false := by rw [beq_eq_false_iff_ne]; exact hy
                go_wp2
                go_roundg (n5 - (kk + 1))
                case measure => omega
                case rel => exact ⟨kk + 1, false, by omega, by omega, rfl, by go_num, (show Aside _ from rfl), (show Aside _ from by have := HS.out; rw [decide_eq_false hy] at this; exact this)⟩
            · go_wp2
              go_roundg (n5 - (kk + 1))
              case measure => omega
              case rel => exact ⟨kk + 1, true, by omega, by omega, rfl, by go_num, (show Aside _ from rfl), (show Aside _ from by have := HS.out; rw [Bool.true_or] at this; exact this)⟩
          · have hltz : ¬ (kk : Int) < (n5 : Int) := by omega
            obtain rfl : kk = n5 := by omega
            have hlen := Lib.hid hs5.len
            have hv : v = decide ((B0 : Int) / 2 ^ N % 2 = 0) := by
              rw [Bool.eq_iff_iff, VV.out, ← HF.out, List.mem_iff_getElem?]
              constructor
              · rintro ⟨j, _, e⟩; exact ⟨j, e⟩
              · rintro ⟨j, e⟩
                exact ⟨j, by have := (List.getElem?_eq_some_iff.1 e).1; rw [hlen.out] at this; exact this, e⟩
            clear VV HF HW hs5 hrd
            have hb0 : 0 ≤ (B0 : Int) / 2 ^ N := Int.ediv_nonneg (by omega) (Int.pow_nonneg (by decide))
            by_cases hB : (B0 : Int) / 2 ^ N % 2 = 0
            · rw [decide_eq_true hB] at hv
              subst hv
              go_wp2_with fail
              have qB1_0 := fun x => (B1.near x).c0; have qB1_1 := fun x => (B1.near x).c1; have qB2_0 := fun x => (B2.near x).c0; have qB2_1 := fun x => (B2.near x).c1; refine wp_region_near (by kernel_rfl) (by kernel_rfl) ?_; (repeat (go_big_quiet_step (first | (go_at_call 14; with_reducible exact near_call (hR2 _)) | (go_at_call 15; with_reducible exact near_call (hI2 _))))); refine wpQuiet_nil ?_; intro xN; have hbw7 := xN.b; generalize xN.W = w7 at hbw7 ⊢; clear xN; clear qB1_0 qB1_1; replace B1 := B1.below hbw7; clear qB2_0 qB2_1; replace B2 := B2.below hbw7
              go_wp2
              go_ret
              exact ⟨rfl, thn hB5 hbw7⟩
            · rw [decide_eq_false hB] at hv
              subst hv
              have hB' : ((B0 : Int) / 2 ^ N % 2 == 0) = false := by rw [beq_eq_false_iff_ne]; exact hB
              go_wp2_with fail
              have qB1_0 := fun x => (B1.near x).c0; have qB1_1 := fun x => (B1.near x).c1; have qB2_0 := fun x => (B2.near x).c0; have qB2_1 := fun x => (B2.near x).c1; refine wp_region_near (by kernel_rfl) (by kernel_rfl) ?_; (repeat (go_big_quiet_step (first | (go_at_call 14; with_reducible exact near_call (hR2 _)) | (go_at_call 15; with_reducible exact near_call (hI2 _))))); refine wpQuiet_nil ?_; intro xN; have hbw7 := xN.b; generalize xN.W = w7 at hbw7 ⊢; clear xN; clear qB1_0 qB1_1; replace B1 := B1.below hbw7; clear qB2_0 qB2_1; replace B2 := B2.below hbw7
              go_wp2
              go_ret
              exact ⟨rfl, thn hB5 hbw7⟩
  · clear h
    go_enter Tryd.func6, Tryd.ntmps6
    go_wp2
    go_ret
    exact ⟨rfl, Below.refl _ _⟩
end Go.Proofs.YtffhcifeccdfjaaDoor
