/- Raised and not masked: the number, and the line that is served next. -/
import Derived.Test.YtffhcifeccdfjaaDoorLines
import Derived.Test.YtffhcifeccdfjaaDoorCtz
import Derived.Laws.BitsAllLaws
namespace Go.Proofs.YtffhcifeccdfjaaDoor
set_option linter.unusedVariables false
set_option linter.unusedSimpArgs false
open Go.RowKit

theorem ready_nat (a b : Nat) (ha : a < 256) (hb : b < 256) : bits .andNot .i64 (a : Int) (b : Int) = ((a &&& (255 - b) : Nat) : Int) := by
  have e1 : a &&& (18446744073709551615 - b) = a &&& (255 - b) := by
    have h1 : a &&& 255 = a := by rw [nat_mask8]; omega
    have h2 : 255 &&& (18446744073709551615 - b) = 255 - b := by rw [nat_mask8']; omega
    rw [← h2, ← Nat.and_assoc, h1]
  have hx : a &&& (255 - b) ≤ a := Nat.and_le_left
  show IntKind.i64.wrap ((BitVec.ofInt 64 (a : Int) &&& ~~~ BitVec.ofInt 64 (b : Int)).toNat : Int) = _
  rw [BitVec.toNat_and, BitVec.toNat_not, ofInt_u64 a (by omega), ofInt_u64 b (by omega)]
  rw [show 2 ^ 64 - 1 - b = 18446744073709551615 - b from rfl, e1]
  obtain ⟨x, hxe⟩ : ∃ x, a &&& (255 - b) = x := ⟨_, rfl⟩
  rw [hxe] at hx ⊢
  rw [IntKind.wrap_i64]
  omega

theorem Tab.below {w w' : World} (h : Tab w) (hb : Below w.heap.size w w') : Tab w' := fun j hj => (hb.cell (p := ⟨1, j, none⟩) (World.block_lt_of_cell? _ _ (h j hj))).trans (h j hj)
/-- The lines that are raised and not masked. -/
def ready (a b : Int) : Int := bits .andNot .i64 a b
theorem ready_in (a b : Int) (h : linesOk a b = true) : 0 ≤ ready a b ∧ ready a b ≤ 255 ∧ 0 ≤ a ∧ a ≤ 255 ∧ 0 ≤ b ∧ b ≤ 255 := by
  simp [linesOk, inB] at h
  obtain ⟨A, rfl⟩ := Int.eq_ofNat_of_zero_le h.1.1
  obtain ⟨B, rfl⟩ := Int.eq_ofNat_of_zero_le h.2.1
  have := ready_nat A B (by omega) (by omega)
  unfold ready
  rw [this]
  have hx : A &&& (255 - B) ≤ A := Nat.and_le_left
  generalize A &&& (255 - B) = x at hx
  omega
def nextL (a b : Int) : Int := if linesOk a b = true ∧ ready a b ≠ 0 then (Lib.ctz 64 (ready a b).toNat : Nat) else -1

set_option maxHeartbeats 1000000 in
theorem nextLine_any (a b : Int) (w : World) (hT : Tab w) : Calls Tryd.prog 8 #[.agg #[.int .i64 a, .int .i64 b]] w fun e w' => .returned (.int .i64 (nextL a b)) = e ∧ Below w.heap.size w w' := by
  have hI := fun W => linesValid_any a b W
  have hin := ready_in a b
  obtain ⟨m, hm⟩ : ∃ m, nextL a b = m := ⟨_, rfl⟩
  rw [hm]
  unfold nextL at hm
  obtain ⟨r, hr⟩ : ∃ r, ready a b = r := ⟨_, rfl⟩
  rw [hr] at hm hin
  have hrd : bits .andNot .i64 a b = r := hr
  generalize linesOk a b = v at *
  have B1 := Blk.new w 24 #[.int .i64 a, .int .i64 b]
  cases v
  · go_enter Tryd.func8, Tryd.ntmps8
    have c1 := B1.cell
    go_wp2_with fail
    refine (hI _).mono ?_; rintro e w2 ⟨rfl, hb2⟩
    go_wp2
    go_ret
    obtain rfl : m = -1 := by rw [← hm]; simp
    exact ⟨rfl, thn ((Below.refl _ _).alloc (Nat.le_refl _) _) hb2⟩
  · obtain ⟨h0, h1, -⟩ := hin rfl
    clear hin hr
    obtain ⟨x, rfl⟩ := Int.eq_ofNat_of_zero_le h0
    by_cases hx : x = 0
    · subst hx
      obtain rfl : m = -1 := by rw [← hm]; simp
      go_enter Tryd.func8, Tryd.ntmps8
      have c1 := B1.cell
      go_wp2_with fail
      refine (hI _).mono ?_; rintro e w2 ⟨rfl, hb2⟩
      go_wp2
      go_ret
      exact ⟨rfl, thn ((Below.refl _ _).alloc (Nat.le_refl _) _) hb2⟩
    · obtain rfl : m = ((Lib.ctz 64 x : Nat) : Int) := by rw [← hm]; simp; intro h; exact absurd h (by omega)
      have hx' : ((x : Int) == 0) = false := by rw [beq_eq_false_iff_ne]; omega
      have hxn : ¬ (x : Int) = 0 := by omega
      have hcz := fun W hW => ctz_any x (by omega) hx W (hT.below hW)
      generalize Lib.ctz 64 x = k at *
      clear hx hm
      go_enter Tryd.func8, Tryd.ntmps8
      have c1 := B1.cell
      go_wp2_with fail
      refine (hI _).mono ?_; rintro e w2 ⟨rfl, hb2⟩
      have hb3 := thn ((Below.refl _ _).alloc (Nat.le_refl _) _) hb2
      have hc := hcz w2 hb3
      clear hcz hI
      go_wp2_with fail
      refine hc.mono ?_; rintro e w3 ⟨rfl, hw3⟩
      rw [hw3]
      go_wp2
      go_ret
      exact ⟨rfl, hb3⟩

/-- Line k is raised and not masked. -/
def rdy (a b : Int) (k : Nat) : Bool := decide (a / 2 ^ k % 2 = 1) && decide (b / 2 ^ k % 2 = 0)
theorem bit_shift (x k : Nat) : ((x : Int) / 2 ^ k % 2 = 1) ↔ x.testBit k = true := by
  have : ((x : Int) / 2 ^ k % 2) = ((x / 2 ^ k % 2 : Nat) : Int) := by simp
  rw [this, Nat.testBit_eq_decide_div_mod_eq]
  simp
  omega
theorem bit_shift0 (x k : Nat) : ((x : Int) / 2 ^ k % 2 = 0) ↔ x.testBit k = false := by
  rw [← Bool.not_eq_true, ← bit_shift]
  omega
theorem not_bit : ∀ b : Nat, b < 256 → ∀ k : Nat, k < 8 → (255 - b).testBit k = !b.testBit k := by decide +kernel
theorem rdy_ready {a b : Int} {k : Nat} (h : linesOk a b = true) (hk : k < 8) : rdy a b k = (ready a b).toNat.testBit k := by
  obtain ⟨-, -, ha0, ha1, hb0, hb1⟩ := ready_in a b h
  obtain ⟨A, rfl⟩ := Int.eq_ofNat_of_zero_le ha0
  obtain ⟨B, rfl⟩ := Int.eq_ofNat_of_zero_le hb0
  unfold ready
  rw [ready_nat A B (by omega) (by omega), Int.toNat_natCast, Nat.testBit_and, not_bit B (by omega) k hk]
  unfold rdy
  rw [Bool.eq_iff_iff]
  simp only [Bool.and_eq_true, decide_eq_true_eq, bit_shift, bit_shift0, Bool.not_eq_true']
/-- The first bit of a number in 1..255. -/
theorem ctz_first : ∀ x : Nat, x < 256 → x ≠ 0 → Lib.ctz 64 x < 8 ∧ x.testBit (Lib.ctz 64 x) = true ∧ x % 2 ^ Lib.ctz 64 x = 0 ∧ x / 2 ^ Lib.ctz 64 x % 2 = 1 ∧ ∀ j : Nat, j < 8 → j < Lib.ctz 64 x → x.testBit j = false := by decide +kernel
theorem bits_none : ∀ x : Nat, x < 256 → (∀ j : Nat, j < 8 → x.testBit j = false) → x = 0 := by decide +kernel
theorem nextL_bad {a b : Int} (h : linesOk a b = false) : nextL a b = -1 := by simp [nextL, h]
theorem nextL_none {a b : Int} (h : ∀ j : Nat, j < 8 → rdy a b j = false) : nextL a b = -1 := by
  cases hl : linesOk a b
  · exact nextL_bad hl
  · obtain ⟨h0, h1, -⟩ := ready_in a b hl
    have : (ready a b).toNat = 0 := bits_none _ (by omega) fun j hj => by rw [← rdy_ready hl hj]; exact h j hj
    unfold nextL
    rw [if_neg (by omega)]
theorem nextL_some {a b : Int} {k : Nat} (hl : linesOk a b = true) (hk : k < 8) (h : rdy a b k = true) (hb : ∀ j : Nat, j < k → rdy a b j = false) : nextL a b = (k : Int) := by
  obtain ⟨h0, h1, -⟩ := ready_in a b hl
  have hne : (ready a b).toNat ≠ 0 := fun e => by rw [rdy_ready hl hk, e] at h; simp at h
  obtain ⟨c1, c2, -, -, c3⟩ := ctz_first _ (by omega) hne
  unfold nextL
  rw [if_pos ⟨hl, by omega⟩]
  generalize Lib.ctz 64 (ready a b).toNat = m at *
  have : m = k := by
    rcases Nat.lt_trichotomy m k with h2 | h2 | h2
    · have := hb m h2
      rw [rdy_ready hl c1, c2] at this; cases this
    · exact h2
    · have := c3 k hk h2
      rw [← rdy_ready hl hk, h] at this; cases this
  rw [this]
/-- What is known of the line that is served next. -/
theorem nextL_cases (a b : Int) : (nextL a b = -1 ∧ ∀ j : Nat, linesOk a b = true → j < 8 → rdy a b j = false) ∨ ∃ k : Nat, k < 8 ∧ nextL a b = (k : Int) ∧ linesOk a b = true ∧ rdy a b k = true ∧ ready a b % 2 ^ k = 0 ∧ ready a b / 2 ^ k % 2 = 1 ∧ ∀ j : Nat, j < k → rdy a b j = false := by
  cases hl : linesOk a b
  · exact .inl ⟨nextL_bad hl, fun j h => by cases h⟩
  · obtain ⟨h0, h1, -⟩ := ready_in a b hl
    by_cases hne : (ready a b).toNat = 0
    · refine .inl ⟨?_, fun j _ hj => ?_⟩
      · unfold nextL; rw [if_neg (by omega)]
      · rw [rdy_ready hl hj, hne]; simp
    · obtain ⟨c1, c2, c3, c4, c5⟩ := ctz_first _ (by omega) hne
      refine .inr ⟨Lib.ctz 64 (ready a b).toNat, c1, ?_, rfl, ?_, ?_, ?_, fun j hj => ?_⟩
      · unfold nextL; rw [if_pos ⟨hl, by omega⟩]
      · rw [rdy_ready hl c1]; exact c2
      · generalize Lib.ctz 64 (ready a b).toNat = m at *
        obtain ⟨x, hx⟩ := Int.eq_ofNat_of_zero_le h0
        rw [hx] at c3 ⊢
        rw [Int.toNat_natCast] at c3
        exact_mod_cast c3
      · generalize Lib.ctz 64 (ready a b).toNat = m at *
        obtain ⟨x, hx⟩ := Int.eq_ofNat_of_zero_le h0
        rw [hx] at c4 ⊢
        rw [Int.toNat_natCast] at c4
        exact_mod_cast c4
      · rw [rdy_ready hl (by omega)]; exact c5 j (by omega) hj
end Go.Proofs.YtffhcifeccdfjaaDoor
