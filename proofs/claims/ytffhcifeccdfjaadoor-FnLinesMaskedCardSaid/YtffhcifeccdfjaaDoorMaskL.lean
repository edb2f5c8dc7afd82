/- MaskLine with on; ServeAll. -/
import Derived.Test.YtffhcifeccdfjaaDoorServe
import Derived.Test.YtffhcifeccdfjaaDoorHold
namespace Go.Proofs.YtffhcifeccdfjaaDoor
set_option linter.unusedVariables false
set_option linter.unusedSimpArgs false
open Go.RowKit

set_option maxHeartbeats 2000000 in
theorem maskLine_any (a b n : Int) (hl : linesOk a b = true) (hn : 0 ≤ n ∧ n ≤ 7) (w : World) : Calls Tryd.prog 17 #[.agg #[.int .i64 a, .int .i64 b], .int .i64 n, .bool true] w fun e w' => .returned (lnV (maskL a b n)) = e ∧ Below w.heap.size w w' := by
  have hI := fun W => linesValid_any a b W
  have hJ := fun W => in_any n 0 7 W
  have hb0 := alo (alo (Below.refl w.heap.size w) (.cells #[.int .i64 a, .int .i64 b] 24)) (.cells #[.int .i64 0, .int .i64 0] 24)
  have B1 := (Blk.new w 24 #[.int .i64 a, .int .i64 b]).alloc (.cells #[.int .i64 0, .int .i64 0] 24)
  have B2 := Blk.new2 w (.cells #[.int .i64 a, .int .i64 b] 24) 24 #[.int .i64 0, .int .i64 0]
  skip
  skip
  rw [hl] at hI
  rw [inB_true.2 hn] at hJ
  rcases (show n = 0 ∨ n = 1 ∨ n = 2 ∨ n = 3 ∨ n = 4 ∨ n = 5 ∨ n = 6 ∨ n = 7 by omega) with hk | hk | hk | hk | hk | hk | hk | hk
  · obtain rfl : n = 0 := hk
    have hs : maskL a b 0 = (a, bits .or .i64 b 1) := by
      unfold maskL
      rw [if_pos ⟨hl, by decide⟩]
      rfl
    rw [hs]
    clear hs hl
    go_enter Tryd.func17, Tryd.ntmps17
    go_wp2_with fail; refine (hI _).mono ?_; rintro e w1 ⟨rfl, hbw1⟩; replace B1 := Blk.belowOf B1 hbw1 (by repeat (first | exact B1 | apply Blk.alloc | apply Blk.drew | (apply Blk.far; rotate_left; (first | assumption | exact Ne.symm (by assumption))) | apply Blk.set_)); replace B2 := Blk.belowOf B2 hbw1 (by repeat (first | exact B2 | apply Blk.alloc | apply Blk.drew | (apply Blk.far; rotate_left; (first | assumption | exact Ne.symm (by assumption))) | apply Blk.set_))
    have hb1 := thn hb0 hbw1
    have cB1_0 := B1.c0; have cB1_1 := B1.c1; have fB1 := B1.frozen; have cB2_0 := B2.c0; have cB2_1 := B2.c1; have fB2 := B2.frozen
    go_wp2_with fail
    refine (hJ _).mono ?_; rintro e w' ⟨rfl, rfl⟩
    go_wp2
    go_region
    all_goals
      go_wp2
      exact bodyPost_ret (v := lnV (a, bits .or .i64 b 1)) (by simp [results, Tryd.results17, go_sem, lnV, cB1_0, cB1_1, cB2_0, cB2_1]) rfl ⟨rfl, by repeat (first | exact hb1 | (apply Below.setCell; rotate_left; (simp only []; omega)) | apply Below.drew | apply belowDrewN)⟩
  · obtain rfl : n = 1 := hk
    have hs : maskL a b 1 = (a, bits .or .i64 b 2) := by
      unfold maskL
      rw [if_pos ⟨hl, by decide⟩]
      rfl
    rw [hs]
    clear hs hl
    go_enter Tryd.func17, Tryd.ntmps17
    go_wp2_with fail; refine (hI _).mono ?_; rintro e w1 ⟨rfl, hbw1⟩; replace B1 := Blk.belowOf B1 hbw1 (by repeat (first | exact B1 | apply Blk.alloc | apply Blk.drew | (apply Blk.far; rotate_left; (first | assumption | exact Ne.symm (by assumption))) | apply Blk.set_)); replace B2 := Blk.belowOf B2 hbw1 (by repeat (first | exact B2 | apply Blk.alloc | apply Blk.drew | (apply Blk.far; rotate_left; (first | assumption | exact Ne.symm (by assumption))) | apply Blk.set_))
    have hb1 := thn hb0 hbw1
    have cB1_0 := B1.c0; have cB1_1 := B1.c1; have fB1 := B1.frozen; have cB2_0 := B2.c0; have cB2_1 := B2.c1; have fB2 := B2.frozen
    go_wp2_with fail
    refine (hJ _).mono ?_; rintro e w' ⟨rfl, rfl⟩
    go_wp2
    go_region
    all_goals
      go_wp2
      exact bodyPost_ret (v := lnV (a, bits .or .i64 b 2)) (by simp [results, Tryd.results17, go_sem, lnV, cB1_0, cB1_1, cB2_0, cB2_1]) rfl ⟨rfl, by repeat (first | exact hb1 | (apply Below.setCell; rotate_left; (simp only []; omega)) | apply Below.drew | apply belowDrewN)⟩
  · obtain rfl : n = 2 := hk
    have hs : maskL a b 2 = (a, bits .or .i64 b 4) := by
      unfold maskL
      rw [if_pos ⟨hl, by decide⟩]
      rfl
    rw [hs]
    clear hs hl
    go_enter Tryd.func17, Tryd.ntmps17
    go_wp2_with fail; refine (hI _).mono ?_; rintro e w1 ⟨rfl, hbw1⟩; replace B1 := Blk.belowOf B1 hbw1 (by repeat (first | exact B1 | apply Blk.alloc | apply Blk.drew | (apply Blk.far; rotate_left; (first | assumption | exact Ne.symm (by assumption))) | apply Blk.set_)); replace B2 := Blk.belowOf B2 hbw1 (by repeat (first | exact B2 | apply Blk.alloc | apply Blk.drew | (apply Blk.far; rotate_left; (first | assumption | exact Ne.symm (by assumption))) | apply Blk.set_))
    have hb1 := thn hb0 hbw1
    have cB1_0 := B1.c0; have cB1_1 := B1.c1; have fB1 := B1.frozen; have cB2_0 := B2.c0; have cB2_1 := B2.c1; have fB2 := B2.frozen
    go_wp2_with fail
    refine (hJ _).mono ?_; rintro e w' ⟨rfl, rfl⟩
    go_wp2
    go_region
    all_goals
      go_wp2
      exact bodyPost_ret (v := lnV (a, bits .or .i64 b 4)) (by simp [results, Tryd.results17, go_sem, lnV, cB1_0, cB1_1, cB2_0, cB2_1]) rfl ⟨rfl, by repeat (first | exact hb1 | (apply Below.setCell; rotate_left; (simp only []; omega)) | apply Below.drew | apply belowDrewN)⟩
  · obtain rfl : n = 3 := hk
    have hs : maskL a b 3 = (a, bits .or .i64 b 8) := by
      unfold maskL
      rw [if_pos ⟨hl, by decide⟩]
      rfl
    rw [hs]
    clear hs hl
    go_enter Tryd.func17, Tryd.ntmps17
    go_wp2_with fail; refine (hI _).mono ?_; rintro e w1 ⟨rfl, hbw1⟩; replace B1 := Blk.belowOf B1 hbw1 (by repeat (first | exact B1 | apply Blk.alloc | apply Blk.drew | (apply Blk.far; rotate_left; (first | assumption | exact Ne.symm (by assumption))) | apply Blk.set_)); replace B2 := Blk.belowOf B2 hbw1 (by repeat (first | exact B2 | apply Blk.alloc | apply Blk.drew | (apply Blk.far; rotate_left; (first | assumption | exact Ne.symm (by assumption))) | apply Blk.set_))
    have hb1 := thn hb0 hbw1
    have cB1_0 := B1.c0; have cB1_1 := B1.c1; have fB1 := B1.frozen; have cB2_0 := B2.c0; have cB2_1 := B2.c1; have fB2 := B2.frozen
    go_wp2_with fail
    refine (hJ _).mono ?_; rintro e w' ⟨rfl, rfl⟩
    go_wp2
    go_region
    all_goals
      go_wp2
      exact bodyPost_ret (v := lnV (a, bits .or .i64 b 8)) (by simp [results, Tryd.results17, go_sem, lnV, cB1_0, cB1_1, cB2_0, cB2_1]) rfl ⟨rfl, by repeat (first | exact hb1 | (apply Below.setCell; rotate_left; (simp only []; omega)) | apply Below.drew | apply belowDrewN)⟩
  · obtain rfl : n = 4 := hk
    have hs : maskL a b 4 = (a, bits .or .i64 b 16) := by
      unfold maskL
      rw [if_pos ⟨hl, by decide⟩]
      rfl
    rw [hs]
    clear hs hl
    go_enter Tryd.func17, Tryd.ntmps17
    go_wp2_with fail; refine (hI _).mono ?_; rintro e w1 ⟨rfl, hbw1⟩; replace B1 := Blk.belowOf B1 hbw1 (by repeat (first | exact B1 | apply Blk.alloc | apply Blk.drew | (apply Blk.far; rotate_left; (first | assumption | exact Ne.symm (by assumption))) | apply Blk.set_)); replace B2 := Blk.belowOf B2 hbw1 (by repeat (first | exact B2 | apply Blk.alloc | apply Blk.drew | (apply Blk.far; rotate_left; (first | assumption | exact Ne.symm (by assumption))) | apply Blk.set_))
    have hb1 := thn hb0 hbw1
    have cB1_0 := B1.c0; have cB1_1 := B1.c1; have fB1 := B1.frozen; have cB2_0 := B2.c0; have cB2_1 := B2.c1; have fB2 := B2.frozen
    go_wp2_with fail
    refine (hJ _).mono ?_; rintro e w' ⟨rfl, rfl⟩
    go_wp2
    go_region
    all_goals
      go_wp2
      exact bodyPost_ret (v := lnV (a, bits .or .i64 b 16)) (by simp [results, Tryd.results17, go_sem, lnV, cB1_0, cB1_1, cB2_0, cB2_1]) rfl ⟨rfl, by repeat (first | exact hb1 | (apply Below.setCell; rotate_left; (simp only []; omega)) | apply Below.drew | apply belowDrewN)⟩
  · obtain rfl : n = 5 := hk
    have hs : maskL a b 5 = (a, bits .or .i64 b 32) := by
      unfold maskL
      rw [if_pos ⟨hl, by decide⟩]
      rfl
    rw [hs]
    clear hs hl
    go_enter Tryd.func17, Tryd.ntmps17
    go_wp2_with fail; refine (hI _).mono ?_; rintro e w1 ⟨rfl, hbw1⟩; replace B1 := Blk.belowOf B1 hbw1 (by repeat (first | exact B1 | apply Blk.alloc | apply Blk.drew | (apply Blk.far; rotate_left; (first | assumption | exact Ne.symm (by assumption))) | apply Blk.set_)); replace B2 := Blk.belowOf B2 hbw1 (by repeat (first | exact B2 | apply Blk.alloc | apply Blk.drew | (apply Blk.far; rotate_left; (first | assumption | exact Ne.symm (by assumption))) | apply Blk.set_))
    have hb1 := thn hb0 hbw1
    have cB1_0 := B1.c0; have cB1_1 := B1.c1; have fB1 := B1.frozen; have cB2_0 := B2.c0; have cB2_1 := B2.c1; have fB2 := B2.frozen
    go_wp2_with fail
    refine (hJ _).mono ?_; rintro e w' ⟨rfl, rfl⟩
    go_wp2
    go_region
    all_goals
      go_wp2
      exact bodyPost_ret (v := lnV (a, bits .or .i64 b 32)) (by simp [results, Tryd.results17, go_sem, lnV, cB1_0, cB1_1, cB2_0, cB2_1]) rfl ⟨rfl, by repeat (first | exact hb1 | (apply Below.setCell; rotate_left; (simp only []; omega)) | apply Below.drew | apply belowDrewN)⟩
  · obtain rfl : n = 6 := hk
    have hs : maskL a b 6 = (a, bits .or .i64 b 64) := by
      unfold maskL
      rw [if_pos ⟨hl, by decide⟩]
      rfl
    rw [hs]
    clear hs hl
    go_enter Tryd.func17, Tryd.ntmps17
    go_wp2_with fail; refine (hI _).mono ?_; rintro e w1 ⟨rfl, hbw1⟩; replace B1 := Blk.belowOf B1 hbw1 (by repeat (first | exact B1 | apply Blk.alloc | apply Blk.drew | (apply Blk.far; rotate_left; (first | assumption | exact Ne.symm (by assumption))) | apply Blk.set_)); replace B2 := Blk.belowOf B2 hbw1 (by repeat (first | exact B2 | apply Blk.alloc | apply Blk.drew | (apply Blk.far; rotate_left; (first | assumption | exact Ne.symm (by assumption))) | apply Blk.set_))
    have hb1 := thn hb0 hbw1
    have cB1_0 := B1.c0; have cB1_1 := B1.c1; have fB1 := B1.frozen; have cB2_0 := B2.c0; have cB2_1 := B2.c1; have fB2 := B2.frozen
    go_wp2_with fail
    refine (hJ _).mono ?_; rintro e w' ⟨rfl, rfl⟩
    go_wp2
    go_region
    all_goals
      go_wp2
      exact bodyPost_ret (v := lnV (a, bits .or .i64 b 64)) (by simp [results, Tryd.results17, go_sem, lnV, cB1_0, cB1_1, cB2_0, cB2_1]) rfl ⟨rfl, by repeat (first | exact hb1 | (apply Below.setCell; rotate_left; (simp only []; omega)) | apply Below.drew | apply belowDrewN)⟩
  · obtain rfl : n = 7 := hk
    have hs : maskL a b 7 = (a, bits .or .i64 b 128) := by
      unfold maskL
      rw [if_pos ⟨hl, by decide⟩]
      rfl
    rw [hs]
    clear hs hl
    go_enter Tryd.func17, Tryd.ntmps17
    go_wp2_with fail; refine (hI _).mono ?_; rintro e w1 ⟨rfl, hbw1⟩; replace B1 := Blk.belowOf B1 hbw1 (by repeat (first | exact B1 | apply Blk.alloc | apply Blk.drew | (apply Blk.far; rotate_left; (first | assumption | exact Ne.symm (by assumption))) | apply Blk.set_)); replace B2 := Blk.belowOf B2 hbw1 (by repeat (first | exact B2 | apply Blk.alloc | apply Blk.drew | (apply Blk.far; rotate_left; (first | assumption | exact Ne.symm (by assumption))) | apply Blk.set_))
    have hb1 := thn hb0 hbw1
    have cB1_0 := B1.c0; have cB1_1 := B1.c1; have fB1 := B1.frozen; have cB2_0 := B2.c0; have cB2_1 := B2.c1; have fB2 := B2.frozen
    go_wp2_with fail
    refine (hJ _).mono ?_; rintro e w' ⟨rfl, rfl⟩
    go_wp2
    go_region
    all_goals
      go_wp2
      exact bodyPost_ret (v := lnV (a, bits .or .i64 b 128)) (by simp [results, Tryd.results17, go_sem, lnV, cB1_0, cB1_1, cB2_0, cB2_1]) rfl ⟨rfl, by repeat (first | exact hb1 | (apply Below.setCell; rotate_left; (simp only []; omega)) | apply Below.drew | apply belowDrewN)⟩

theorem bits_or_nat (a b : Nat) (ha : a < 256) (hb : b < 256) : bits .or .i64 (a : Int) (b : Int) = ((a ||| b : Nat) : Int) := by
  have hx : a ||| b < 2 ^ 8 := Nat.or_lt_two_pow (by omega) (by omega)
  show IntKind.i64.wrap ((BitVec.ofInt 64 (a : Int) ||| BitVec.ofInt 64 (b : Int)).toNat : Int) = _
  rw [BitVec.toNat_or, ofInt_u64 a (by omega), ofInt_u64 b (by omega)]
  generalize a ||| b = x at hx ⊢
  rw [IntKind.wrap_i64]
  omega
theorem pow_lt (k : Nat) (hk : k < 8) : 2 ^ k < 256 := Nat.pow_lt_pow_right (by decide) hk (n := 8)
theorem andNot_pow (A k : Nat) (hA : A < 256) (hk : k < 8) : bits .andNot .i64 (A : Int) (2 ^ k) = ((A &&& (255 - 2 ^ k) : Nat) : Int) := by
  have := ready_nat A (2 ^ k) hA (pow_lt k hk)
  rw [← this]
  simp
theorem or_pow (A k : Nat) (hA : A < 256) (hk : k < 8) : bits .or .i64 (A : Int) (2 ^ k) = ((A ||| 2 ^ k : Nat) : Int) := by
  have := bits_or_nat A (2 ^ k) hA (pow_lt k hk)
  rw [← this]
  simp
theorem clear_facts : ∀ A : Nat, A < 256 → ∀ k : Nat, k < 8 → A.testBit k = true → (A &&& (255 - 2 ^ k)) < A ∧ ((A &&& (255 - 2 ^ k)) ||| 2 ^ k) = A := by decide +kernel
theorem clear_bit : ∀ A : Nat, A < 256 → ∀ k : Nat, k < 8 → ∀ j : Nat, j < 8 → (A &&& (255 - 2 ^ k)).testBit j = (A.testBit j && !decide (j = k)) := by
  intro A hA k hk j hj
  rw [Nat.testBit_and, not_bit _ (pow_lt k hk) j hj, Nat.testBit_two_pow]
  cases A.testBit j <;> simp [eq_comm]
theorem set_bit (A k j : Nat) : (A ||| 2 ^ k).testBit j = (A.testBit j || decide (j = k)) := by
  rw [Nat.testBit_or, Nat.testBit_two_pow]
  simp [eq_comm]
theorem set_facts : ∀ A : Nat, A < 256 → ∀ k : Nat, k < 8 → (A ||| 2 ^ k) < 256 ∧ ((A ||| 2 ^ k) ||| 2 ^ k) = (A ||| 2 ^ k) := by decide +kernel
theorem rdy_nat (A B k : Nat) : rdy (A : Int) (B : Int) k = (A.testBit k && !B.testBit k) := by
  unfold rdy
  rw [Bool.eq_iff_iff]
  simp only [Bool.and_eq_true, decide_eq_true_eq, bit_shift, bit_shift0, Bool.not_eq_true']
theorem linesOk_nat {A B : Nat} (hA : A < 256) (hB : B < 256) : linesOk (A : Int) (B : Int) = true := linesOk_true.2 ⟨by omega, by omega, by omega, by omega⟩
theorem lines_nat {a b : Int} (h : linesOk a b = true) : ∃ A B : Nat, a = A ∧ b = B ∧ A < 256 ∧ B < 256 := by
  obtain ⟨h1, h2, h3, h4⟩ := linesOk_true.1 h
  exact ⟨a.toNat, b.toNat, by omega, by omega, by omega, by omega⟩
/-- A served line is no longer raised; nothing else has changed. -/
theorem served {a b : Int} {k : Nat} (hl : linesOk a b = true) (hk : k < 8) (hr : rdy a b k = true) :
    linesOk (bits .andNot .i64 a (2 ^ k)) b = true ∧ bits .andNot .i64 a (2 ^ k) < a ∧ (∀ j : Nat, j < 8 → rdy (bits .andNot .i64 a (2 ^ k)) b j = (rdy a b j && !decide (j = k))) ∧ bits .or .i64 (bits .andNot .i64 a (2 ^ k)) (2 ^ k) = a := by
  obtain ⟨A, B, rfl, rfl, hA, hB⟩ := lines_nat hl
  rw [rdy_nat, Bool.and_eq_true] at hr
  obtain ⟨h1, h2⟩ := clear_facts A hA k hk hr.1
  rw [andNot_pow A k hA hk, or_pow _ k (by omega) hk, h2]
  refine ⟨linesOk_nat (by omega) hB, by omega, fun j hj => ?_, rfl⟩
  rw [rdy_nat, rdy_nat, clear_bit A hA k hk j hj]
  cases A.testBit j <;> cases B.testBit j <;> simp

theorem Blk.appNe {w w' : World} {v : Value} {g : Nat} {t : TypeId} {cs : Array Value} (h : Blk w g t cs) (hg : w.grownBy w' v.ownBlock) (hne : v.ownBlock ≠ some g) : Blk w' g t cs := (hg.block g h.lt (fun e => hne e.symm)).trans h
theorem sz_set2 {n : Nat} {w : World} {p q : Addr} {u v : Value} (h : n ≤ w.heap.size) : n ≤ ((w.setCell p u).setCell q v).heap.size := by simpa [World.setCell] using h
theorem cloneNil_any (w : World) : Calls Tryd.prog 27 #[.slice none 0 0] w fun e w' => .returned (.slice none 0 0) = e ∧ Below w.heap.size w w' := by
  have h0 : ∀ W : World, Calls Tryd.prog 38 #[.slice none 0 0] W fun e w' => .returned (.slice none 0 0) = e ∧ Below W.heap.size W w' := by
    intro W
    have heq : (binOp .eql 34 (.slice none 0 0) (.slice none 0 0)).run Tryd.prog W = .ok (.bool true) W := by kernel_rfl
    go_enter Tryd.func38, Tryd.ntmps38
    go_wp2
    go_ret
    exact ⟨rfl, Below.refl _ _⟩
  have hc := fun W => clipInt_any none 0 0 (Nat.le_refl _) (by omega) (fun _ => rfl) W
  go_enter Tryd.func27, Tryd.ntmps27
  go_wp2_with fail
  refine (h0 _).mono ?_
  rintro e w1 ⟨rfl, hb⟩
  go_wp2_with fail
  refine (hc _).mono ?_
  rintro e w' ⟨rfl, rfl⟩
  go_wp2
  go_ret
  exact ⟨rfl, hb⟩
/-- clone of a list of numbers of the call's own. -/
theorem cloneOwn_any {base : Nat} {v : Value} {xs : List Int} (hn : xs.length ≤ 1000) (w : World) (h : Own w base 3 1 eI v xs) :
    Calls Tryd.prog 27 #[v] w (Post SV.v fun s w' => SV.ok w' w.heap.size 1 eI s ∧ s.xs = xs ∧ Below w.heap.size w w') := by
  obtain ⟨A, c, rfl, hA, hsl, hf⟩ := h.sl encI
  cases A with
  | none =>
    obtain rfl : c = 0 := hA.1 rfl
    have hl := hsl.le
    obtain rfl : xs = [] := List.eq_nil_of_length_eq_zero (by omega)
    exact (cloneNil_any w).mono fun e w' ⟨e1, e2⟩ => ⟨⟨none, 0, 0, []⟩, e1.symm, okNil _ _ _ _, rfl, e2⟩
  | some ad =>
    obtain ⟨b, o, sp⟩ := ad
    obtain rfl : sp = none := hA.2 _ rfl
    exact clone_any b o _ c xs hn w hsl

set_option maxHeartbeats 2000000 in
theorem serveAll_any (a b : Int) (hl : linesOk a b = true) (w : World) (hT : Tab w) : Calls Tryd.prog 18 #[.agg #[.int .i64 a, .int .i64 b]] w (Post SV.v fun s w' => SV.ok w' w.heap.size 1 eI s ∧ (∀ x ∈ s.xs, ∃ k : Nat, k < 8 ∧ x = (k : Int)) ∧ (∀ k : Nat, k < 8 → ((k : Int) ∈ s.xs ↔ rdy a b k = true)) ∧ Below w.heap.size w w') := by
  have hb0 := alo (Below.refl w.heap.size w) (.cells #[.int .i64 a, .int .i64 b] 24)
  have B1 := Blk.new w 24 #[.int .i64 a, .int .i64 b]
  have hz1 : w.heap.size + 1 ≤ (w.alloc (.cells #[.int .i64 a, .int .i64 b] 24)).heap.size := by simp
  have hbd := linesOk_true.1 hl
  go_enter Tryd.func18, Tryd.ntmps18
  go_wp2
  go_loopg [3] 256 (fun gg s3 wr => ∃ (a' : Int) (l : List Int) (v : Value), s3 = v ∧ 0 ≤ a' ∧ a' < gg ∧ gg ≤ 256 ∧ l.length + a' ≤ 255 ∧ Aside (linesOk a' b = true) ∧ Aside (∀ x ∈ l, ∃ k : Nat, k < 8 ∧ x = (k : Int)) ∧ Aside (∀ k : Nat, k < 8 → (((k : Int) ∈ l ∨ rdy a' b k = true) ↔ rdy a b k = true)) ∧ Aside (Below w.heap.size w wr) ∧ Aside (w.heap.size + 1 ≤ wr.heap.size) ∧ Aside (Blk wr w.heap.size 24 #[.int .i64 a', .int .i64 b]) ∧ Aside (Own wr (w.heap.size + 1) 3 1 eI v l))
  case atStart => exact ⟨a, [], _, rfl, by omega, by omega, by omega, by simp; omega, (show Aside _ from hl), (show Aside _ from fun x hx => by cases hx), (show Aside _ from fun k hk => by simp), (show Aside _ from hb0), (show Aside _ from hz1), (show Aside _ from B1), (show Aside _ from Own.nil)⟩
  case round =>
    obtain ⟨a', l, v, rfl, ha0, hag, hg, hll, LL, MM, QQ, BW, ZZ, BB, OW⟩ := hrel
    clear B1 hb0 hz1 hbd
    have B1 := BB.out
    have own1 := OW.out
    clear BB OW
    have hsv := serveLine_any a' b wr (hT.below BW.out)
    skip
    skip
    have cB1_0 := B1.c0; have cB1_1 := B1.c1; have fB1 := B1.frozen
    rcases nextL_cases a' b with ⟨e1, hno⟩ | ⟨k, hk, e1, -, hr, -⟩
    · have hs : serveL a' b = (a', b, -1) := by simp [serveL, LL.out, e1]
      rw [hs] at hsv
      have hfin := Lib.hid (fun (k : Nat) (hk : k < 8) => (QQ.out k hk).symm.trans ⟨fun h => h.elim id (fun h => by rw [hno k LL.out hk] at h; cases h), Or.inl⟩)
      clear hs e1 hno
      simp only [serveV] at hsv
      go_wp2_with fail
      refine hsv.mono ?_; rintro e w2 ⟨rfl, hb2⟩
      have own2 := (own1.below hb2).alloc (.cells #[.int .i64 a', .int .i64 b] 24)
      have hb3 := alo (thn BW.out hb2) (.cells #[.int .i64 a', .int .i64 b] 24)
      clear cB1_0 cB1_1 fB1
      have hcl := cloneOwn_any (by omega) _ own2
      clear own1 own2
      go_wp2_with fail
      refine hcl.mono ?_
      rintro e w4 ⟨⟨A9, n9, c9, l9⟩, rfl, hok, hl9, hb4⟩
      simp only [SV.v] at hok hl9 ⊢
      subst hl9
      have hz := hb3.size
      go_wp2
      go_ret
      exact ⟨⟨A9, n9, c9, _⟩, rfl, hok.mono hz, MM.out, fun k hk => (hfin.out k hk).symm, thn hb3 hb4⟩
    · obtain ⟨s1, s2, s3, -⟩ := served LL.out hk hr
      have hs : serveL a' b = (bits .andNot .i64 a' (2 ^ k), b, (k : Int)) := by simp [serveL, LL.out, e1]
      rw [hs] at hsv
      obtain ⟨h0', -⟩ := linesOk_true.1 s1
      have hmem := Lib.hid (fun (j : Nat) (hj : j < 8) => show (((j : Int) ∈ l ++ [(k : Int)] ∨ rdy (bits .andNot .i64 a' (2 ^ k)) b j = true) ↔ rdy a b j = true) by
        rw [← QQ.out j hj, s3 j hj]
        by_cases e : j = k
        · subst e; simp [hr]
        · have : ¬ (j : Int) = (k : Int) := by omega
          simp [e, this])
      have hall := Lib.hid (show ∀ x ∈ l ++ [(k : Int)], ∃ k : Nat, k < 8 ∧ x = (k : Int) from fun x hx => by
        rcases List.mem_append.1 hx with h | h
        · exact MM.out x h
        · exact ⟨k, hk, by simpa using h⟩)
      have hok' := Lib.hid s1
      clear hs e1 s1 s3 hr
      generalize bits .andNot .i64 a' (2 ^ k) = a2 at *
      have hk0 : ¬ (k : Int) < 0 := by omega
      simp only [serveV] at hsv
      go_wp2_with fail
      refine hsv.mono ?_; rintro e w2 ⟨rfl, hb2⟩
      clear cB1_0 cB1_1 fB1
      replace B1 := ((B1.below hb2).alloc (.cells #[.int .i64 a2, .int .i64 b] 24)).alloc (.cells #[.int .i64 k] 3)
      have B2 := (Blk.new w2 24 #[.int .i64 a2, .int .i64 b]).alloc (.cells #[.int .i64 k] 3)
      have B3 := Blk.new2 w2 (.cells #[.int .i64 a2, .int .i64 b] 24) 3 #[.int .i64 k]
      have own2 := ((own1.below hb2).alloc (.cells #[.int .i64 a2, .int .i64 b] 24)).alloc (.cells #[.int .i64 k] 3)
      have hb3 := alo (alo (thn BW.out hb2) (.cells #[.int .i64 a2, .int .i64 b] 24)) (.cells #[.int .i64 k] 3)
      have src := Sl.of_blk (xs := [(k : Int)]) B3 encI (by simp)
      have hz2 : w.heap.size + 1 ≤ w2.heap.size := Nat.le_trans ZZ.out hb2.size
      have hd12 : w.heap.size ≠ w2.heap.size := by omega
      have hzz := ZZ.out
      have B2c := B2.c0
      have B2d := B2.c1
      have hlt1 := own1.lt
      clear own1
      go_wp2_with (at_builtin; (refine app_own rfl _ _ appInt rfl encI (w.heap.size + 1) _ l rfl own2 _ 1 1 [(k : Int)] rfl (fun e => by cases e) src (by omega) (by simp; omega) ?_); (intro v' w6 own5 hg5; have B1a := B1.app own2 hg5 (by omega); have B2a := B2.appNe hg5 (fun e => by have := hlt1 _ e; have := hb2.size; omega); have hb6 := belowApp hb3 own2 hg5 (by omega) hb3.size; have hz6 : w.heap.size + 1 ≤ w6.heap.size := Nat.le_trans (by simp; omega) hg5.size; have e1 := B1a.c0; have e2 := B1a.c1; have e3 := B1a.frozen; have e4 := B2a.c0; have e5 := B2a.c1))
      go_roundg a'.toNat
      case measure => omega
      case rel => exact ⟨a2, l ++ [(k : Int)], v', rfl, h0', by omega, by omega, by simp; omega, (show Aside _ from hok'.out), (show Aside _ from hall.out), (show Aside _ from hmem.out), (show Aside _ from (hb6.setCell (p := ⟨w.heap.size, 0, none⟩) (Nat.le_refl _) _).setCell (p := ⟨w.heap.size, 1, none⟩) (Nat.le_refl _) _), (show Aside _ from sz_set2 hz6), (show Aside _ from (B1a.set_ 0 _).set_ 1 _), (show Aside _ from (own5.far (p := ⟨w.heap.size, 0, none⟩) (by simp) _).far (p := ⟨w.heap.size, 1, none⟩) (by simp) _)⟩
end Go.Proofs.YtffhcifeccdfjaaDoor
