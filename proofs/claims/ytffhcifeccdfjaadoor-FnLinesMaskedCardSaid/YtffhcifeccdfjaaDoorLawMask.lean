/- The walk of FnLinesMasked. -/
import Derived.Test.YtffhcifeccdfjaaDoorDDoor
import Derived.Test.YtffhcifeccdfjaaDoorMaskL
import Derived.Test.YtffhcifeccdfjaaDoorNear
import Derived.Test.YtffhcifeccdfjaaDoorAlive
namespace Go.Proofs.YtffhcifeccdfjaaDoor
set_option linter.unusedVariables false
set_option linter.unusedSimpArgs false
open Go.RowKit

theorem low_step : ∀ B : Nat, B < 256 → ∀ k : Nat, k < 8 → B % 2 ^ k = 2 ^ k - 1 → (B ||| 2 ^ k) < 256 ∧ (B ||| 2 ^ k) % 2 ^ (k + 1) = 2 ^ (k + 1) - 1 := by decide +kernel
theorem rdy_full (a : Int) (k : Nat) (hk : k < 8) : rdy a 255 k = false := by
  have : ∀ k : Nat, k < 8 → (255 : Nat).testBit k = true := by decide
  have h2 := bit_shift0 255 k
  rw [this k hk] at h2
  unfold rdy
  rw [decide_eq_false (p := (255 : Int) / 2 ^ k % 2 = 0) (fun h => by have := h2.1 h; cases this), Bool.and_false]
set_option maxHeartbeats 2000000 in
theorem lawLinesMasked (A : Option Addr) (n c : Nat) (zs : List Int) (w : World) (hT : Tab w) (h : Code w A n c zs) :
    Calls Tryd.prog 5 #[.slice A n c] w fun e w' => .returned (.bool true) = e ∧ Below w.heap.size w w' := by
  have hle := h.le
  have hmax := h.max
  by_cases hn : n ≤ 1048576
  · have hdraw := drawServeLine_any A n c zs w h
    clear h
    go_enter Tryd.func5, Tryd.ntmps5
    go_wp2_with fail
    refine hdraw.mono ?_
    rintro e w1 ⟨⟨a, b⟩, rfl, hb⟩
    clear hdraw
    have hT1 := hT.below hb
    have hI := fun W => linesValid_any a b W
    have hS := fun W => specLinesValid_any a b W
    have B1 := Blk.new w1 24 #[.int .i64 a, .int .i64 b]
    have hB := alo hb (.cells #[.int .i64 a, .int .i64 b] 24)
    have hB1 := alo (Below.refl w1.heap.size w1) (.cells #[.int .i64 a, .int .i64 b] 24)
    simp only [lnV]
    skip
    skip
    cases hl : linesOk a b
    · rw [hl] at hI hS
      clear hl
      go_wp2_with fail
      generalize w1.alloc (.cells #[.int .i64 a, .int .i64 b] 24) = W1 at *
      have qB1_0 := fun x => (B1.near x).c0; have qB1_1 := fun x => (B1.near x).c1; refine wp_region_near (by kernel_rfl) (by kernel_rfl) ?_; (repeat (go_big_quiet_step (first | (go_at_call 15; with_reducible exact near_call (hI _)) | (go_at_call 16; with_reducible exact near_call (hS _))))); refine wpQuiet_nil ?_; intro xN; have hbw2 := xN.b; generalize xN.W = w2 at hbw2 ⊢; clear xN; clear qB1_0 qB1_1; replace B1 := B1.below hbw2
      have cB1_0 := B1.c0; have cB1_1 := B1.c1; have fB1 := B1.frozen
      go_wp2_with fail
      refine (hS _).mono ?_; rintro e w3 ⟨rfl, hb3⟩
      go_wp2_with fail
      refine (alive_any _).mono ?_; rintro e w4 ⟨rfl, hb4⟩
      go_wp2
      go_ret
      exact ⟨rfl, thn (thn (thn hB hbw2) hb3) hb4⟩
    · rw [hl] at hI hS
      obtain ⟨A0, B0, rfl, rfl, hA0, hB0⟩ := lines_nat hl
      clear hl
      go_wp2_with fail
      generalize w1.alloc (.cells #[.int .i64 (A0 : Int), .int .i64 (B0 : Int)] 24) = W1 at *
      have qB1_0 := fun x => (B1.near x).c0; have qB1_1 := fun x => (B1.near x).c1; refine wp_region_near (by kernel_rfl) (by kernel_rfl) ?_; (repeat (go_big_quiet_step (first | (go_at_call 15; with_reducible exact near_call (hI _)) | (go_at_call 16; with_reducible exact near_call (hS _))))); refine wpQuiet_nil ?_; intro xN; have hbw2 := xN.b; generalize xN.W = w2 at hbw2 ⊢; clear xN; clear qB1_0 qB1_1; replace B1 := B1.below hbw2
      have cB1_0 := B1.c0; have cB1_1 := B1.c1; have fB1 := B1.frozen
      go_wp2_with fail
      refine (hS _).mono ?_; rintro e w3 ⟨rfl, hb3⟩
      clear cB1_0 cB1_1 fB1
      have h12 := B1.lt
      replace B1 := B1.below hb3
      have hd12 : w1.heap.size < w3.heap.size := Nat.lt_of_lt_of_le h12 hb3.size
      have B1z := B1.alloc (.cells #[.int .i64 (A0 : Int), .int .i64 (B0 : Int)] 24)
      have B2 := Blk.new w3 24 #[.int .i64 (A0 : Int), .int .i64 (B0 : Int)]
      have hB3 := alo (thn (thn hB hbw2) hb3) (.cells #[.int .i64 (A0 : Int), .int .i64 (B0 : Int)] 24)
      have hB4 := alo (thn (thn hB1 hbw2) hb3) (.cells #[.int .i64 (A0 : Int), .int .i64 (B0 : Int)] 24)
      skip
      have cB1_0 := B1.c0; have cB1_1 := B1.c1; have fB1 := B1.frozen
      go_wp2
      go_loopg [5] 8 (fun gg s5 wr => ∃ (kk Bv : Nat), kk ≤ 8 ∧ 8 - kk ≤ gg ∧ s5 = .int .i64 kk ∧ Aside (Bv < 256 ∧ Bv % 2 ^ kk = 2 ^ kk - 1) ∧ Aside (Below w.heap.size w wr) ∧ Aside (Below w1.heap.size w1 wr) ∧ Aside (Blk wr w1.heap.size 24 #[.int .i64 (A0 : Int), .int .i64 (B0 : Int)]) ∧ Aside (Blk wr w3.heap.size 24 #[.int .i64 (A0 : Int), .int .i64 (Bv : Int)]))
      case atStart => exact ⟨0, B0, Nat.zero_le _, by omega, rfl, (show Aside _ from ⟨hB0, by simp; omega⟩), (show Aside _ from hB3), (show Aside _ from hB4), (show Aside _ from B1z), (show Aside _ from B2)⟩
      case round =>
        obtain ⟨kk, Bv, hkk, hg, rfl, HV, BW, BX, BB1, BB2⟩ := hrel
        clear B1 B1z B2 hB3 hB4
        have B1 := BB1.out
        have B2 := BB2.out
        clear BB1 BB2
        have hBv := HV.out.1
        by_cases hlt : kk < 8
        · have hltz : (kk : Int) ≤ 7 := by omega
          have hM := fun W => maskLine_any (A0 : Int) (Bv : Int) (kk : Int) (linesOk_nat hA0 hBv) (by omega) W
          have hs : maskL (A0 : Int) (Bv : Int) (kk : Int) = ((A0 : Int), ((Bv ||| 2 ^ kk : Nat) : Int)) := by
            unfold maskL
            rw [if_pos ⟨linesOk_nat hA0 hBv, inB_true.2 (by omega)⟩, Int.toNat_natCast, or_pow Bv kk hBv hlt]
          have HN := Lib.hid (low_step Bv hBv kk hlt HV.out.2)
          rw [hs] at hM
          clear hs
          generalize (Bv ||| 2 ^ kk) = Bn at *
          simp only [lnV] at hM
          skip
          have cB1_0 := B1.c0; have cB1_1 := B1.c1; have fB1 := B1.frozen; have cB2_0 := B2.c0; have cB2_1 := B2.c1; have fB2 := B2.frozen
          go_wp2_with fail
          refine (hM _).mono ?_; rintro e w4 ⟨rfl, hb4⟩
          clear cB1_0 cB1_1 fB1 cB2_0 cB2_1 fB2
          replace B1 := B1.below hb4
          replace B2 := B2.below hb4
          have cB1_0 := B1.c0; have cB1_1 := B1.c1; have fB1 := B1.frozen; have cB2_0 := B2.c0; have cB2_1 := B2.c1; have fB2 := B2.frozen
          go_wp2
          go_roundg (8 - (kk + 1))
          case measure => omega
          case rel => exact ⟨kk + 1, Bn, by omega, by omega, by go_num, (show Aside _ from HN.out), (show Aside _ from ((thn BW.out hb4).setCell (p := ⟨w3.heap.size, 0, none⟩) (Nat.le_trans hb.size (Nat.le_of_lt hd12)) _).setCell (p := ⟨w3.heap.size, 1, none⟩) (Nat.le_trans hb.size (Nat.le_of_lt hd12)) _), (show Aside _ from ((thn BX.out hb4).setCell (p := ⟨w3.heap.size, 0, none⟩) (Nat.le_of_lt hd12) _).setCell (p := ⟨w3.heap.size, 1, none⟩) (Nat.le_of_lt hd12) _), (show Aside _ from (B1.far (p := ⟨w3.heap.size, 0, none⟩) (Nat.ne_of_lt hd12) _).far (p := ⟨w3.heap.size, 1, none⟩) (Nat.ne_of_lt hd12) _), (show Aside _ from (B2.set_ 0 _).set_ 1 _)⟩
        · obtain rfl : kk = 8 := by omega
          obtain rfl : Bv = 255 := by have := HV.out; omega
          have hno : ∀ k : Nat, k < 8 → rdy (A0 : Int) 255 k = false := fun k hk => rdy_full _ k hk
          have hok : linesOk (A0 : Int) 255 = true := linesOk_nat (B := 255) hA0 (by decide)
          have hs : serveL (A0 : Int) 255 = ((A0 : Int), 255, -1) := by
            have := nextL_none hno
            unfold serveL
            rw [if_pos hok, this]
            rfl
          have hSv := fun W (hW : Below w1.heap.size w1 W) => serveLine_any (A0 : Int) 255 W (hT1.below hW)
          have hAll := fun W (hW : Below w1.heap.size w1 W) => serveAll_any (A0 : Int) 255 hok W (hT1.below hW)
          rw [hs] at hSv
          simp only [serveV] at hSv
          have B2' : Blk wr w3.heap.size 24 #[.int .i64 (A0 : Int), .int .i64 255] := B2
          clear B2
          have B2 := B2'
          clear B2' hs HV
          skip
          have cB1_0 := B1.c0; have cB1_1 := B1.c1; have fB1 := B1.frozen; have cB2_0 := B2.c0; have cB2_1 := B2.c1; have fB2 := B2.frozen
          go_wp2_with fail
          refine (hSv _ BX.out).mono ?_; rintro e w4 ⟨rfl, hb4⟩
          clear cB1_0 cB1_1 fB1 cB2_0 cB2_1 fB2
          replace B1 := (B1.below hb4).alloc (.cells #[.int .i64 (A0 : Int), .int .i64 255] 24)
          replace B2 := (B2.below hb4).alloc (.cells #[.int .i64 (A0 : Int), .int .i64 255] 24)
          have B3 := Blk.new w4 24 #[.int .i64 (A0 : Int), .int .i64 255]
          have hX := alo (thn BX.out hb4) (.cells #[.int .i64 (A0 : Int), .int .i64 255] 24)
          have hY := alo (thn BW.out hb4) (.cells #[.int .i64 (A0 : Int), .int .i64 255] 24)
          skip
          have cB1_0 := B1.c0; have cB1_1 := B1.c1; have fB1 := B1.frozen; have cB2_0 := B2.c0; have cB2_1 := B2.c1; have fB2 := B2.frozen; have cB3_0 := B3.c0; have cB3_1 := B3.c1; have fB3 := B3.frozen
          go_wp2_with fail
          refine (hAll _ hX).mono ?_
          rintro e w5 ⟨⟨A5, n5, c5, l5⟩, rfl, hok5, hm5, hi5, hb5⟩
          simp only [SV.v] at hok5 hm5 hi5 ⊢
          have hn5 : l5 = [] := by
            rw [List.eq_nil_iff_forall_not_mem]
            intro x hx
            obtain ⟨k, hk, rfl⟩ := hm5 x hx
            have := (hi5 k hk).1 hx
            rw [hno k hk] at this
            cases this
          obtain rfl : n5 = 0 := by have := hok5.sl.len; rw [hn5] at this; exact this.symm
          clear hok5 hm5 hi5 hno
          go_wp2
          go_ret
          exact ⟨rfl, thn hY hb5⟩
  · clear h
    go_enter Tryd.func5, Tryd.ntmps5
    go_wp2
    go_ret
    exact ⟨rfl, Below.refl _ _⟩
end Go.Proofs.YtffhcifeccdfjaaDoor
