/- The walk of FnWindowsMeet. -/
import Derived.Test.YtmlodhogfejdjaaMeet
import Derived.Test.YtmlodhogfejdjaaAlive
namespace Go.Proofs.Ytmlodhogfejdjaa
open Go.RowKit

theorem wmeet_comm (a b : Win) : wmeet b a = wmeet a b := by
  unfold wmeet meetW Win.lo Win.hi
  rw [Bool.and_comm b.ok a.ok]
  have h1 : (if b.base < a.base then a.base else b.base) = if a.base < b.base then b.base else a.base := by split <;> split <;> omega
  have h2 : (if a.base + a.size < b.base + b.size then a.base + a.size else b.base + b.size) = if b.base + b.size < a.base + a.size then b.base + b.size else a.base + a.size := by split <;> split <;> omega
  rw [h1, h2, Bool.and_comm b.wr a.wr]
theorem wmeet_no {a b m : Win} (h : wmeet a b = (m, false)) : m = ⟨0, 0, false⟩ := by
  unfold wmeet meetW at h
  split at h
  · split at h
    · injection h with h _; exact h.symm
    · injection h with _ h; cases h
  · injection h with h _; exact h.symm
theorem wmeet_self {a : Win} (ha : a.ok = true) : wmeet a a = (a, true) := by
  have h := Win.ok_true.1 ha
  obtain ⟨ab, az, aw⟩ := a
  simp only [] at h
  unfold wmeet meetW Win.lo Win.hi
  rw [ha]
  simp
  rw [if_neg (by omega)]
  simp
  omega
theorem wmeet_yes {a b m : Win} (h : wmeet a b = (m, true)) : a.ok = true ∧ b.ok = true ∧ m.ok = true ∧ a.base ≤ m.base ∧ b.base ≤ m.base ∧ m.base + m.size ≤ a.base + a.size ∧ m.base + m.size ≤ b.base + b.size ∧ 1 ≤ m.size := by
  unfold wmeet meetW at h
  split at h
  · rename_i hok
    rw [Bool.and_eq_true] at hok
    obtain ⟨ha, hb⟩ := hok
    have h1 := Win.ok_true.1 ha
    have h2 := Win.ok_true.1 hb
    split at h
    · injection h with _ h; cases h
    · rename_i hc
      injection h with h _
      subst h
      have l1 : a.base ≤ Win.lo a b ∧ b.base ≤ Win.lo a b ∧ (Win.lo a b = a.base ∨ Win.lo a b = b.base) := by unfold Win.lo; split <;> omega
      have l2 : Win.hi a b ≤ a.base + a.size ∧ Win.hi a b ≤ b.base + b.size := by unfold Win.hi; split <;> omega
      generalize Win.lo a b = lo at *
      generalize Win.hi a b = hi at *
      refine ⟨ha, hb, Win.ok_true.2 ?_, ?_⟩
      all_goals
        simp only []
        omega
  · injection h with _ h; cases h
theorem winsOk_one {m : Win} (h : m.ok = true) : winsOk [m] = true := by simp [winsOk, h]

set_option maxHeartbeats 2000000 in
theorem lawWindowsMeet (A : Option Addr) (n c : Nat) (zs : List Int) (w : World) (h : Code w A n c zs) :
    Calls Try.prog 5 #[.slice A n c] w fun e w' => .returned (.bool true) = e ∧ Below w.heap.size w w' := by
  have hle := h.le
  have hmax := h.max
  by_cases hn : n ≤ 1048576
  · have hdraw := drawWindowsMeet_any A n c zs w h
    clear h
    go_enter Try.func5, Try.ntmps5
    go_wp2_with fail
    refine hdraw.mono ?_
    rintro e w1 ⟨⟨a, b⟩, rfl, _, _, hb⟩
    clear hdraw
    have hI := fun W => windowsMeet_any a b W
    have hS := fun W => specWindowsMeet_any a b W
    have hJ := fun W => windowsMeet_any b a W
    have hK := fun W => windowsMeet_any a a W
    rw [wmeet_comm] at hJ
    have hno := fun m => @wmeet_no a b m
    have hyes := fun m => @wmeet_yes a b m
    have hself := @wmeet_self a
    generalize wmeet a b = m at *
    generalize wmeet a a = sf at *
    obtain ⟨⟨mb, ms, mw⟩, ok⟩ := m
    obtain ⟨ab, az, aw⟩ := a
    obtain ⟨bb, bs, bw⟩ := b
    simp only [win2V, winV, meetV] at hI hS hJ hK ⊢
    skip
    have B1 := (Blk.new w1 35 #[.int .i64 ab, .int .i64 az, .bool aw]).alloc (.cells #[.int .i64 bb, .int .i64 bs, .bool bw] 35)
    have B2 := Blk.new2 w1 (.cells #[.int .i64 ab, .int .i64 az, .bool aw] 35) 35 #[.int .i64 bb, .int .i64 bs, .bool bw]
    have dB1B2 : w1.heap.size ≠ w1.heap.size + 1 := by omega
    replace hb := alo (alo hb (.cells #[.int .i64 ab, .int .i64 az, .bool aw] 35)) (.cells #[.int .i64 bb, .int .i64 bs, .bool bw] 35)
    skip
    skip
    have cB1_0 := B1.c0; have cB1_1 := B1.c1; have cB1_2 := B1.c2; have fB1 := B1.frozen; have cB2_0 := B2.c0; have cB2_1 := B2.c1; have cB2_2 := B2.c2; have fB2 := B2.frozen
    go_wp2_with fail; refine (hI _).mono ?_; rintro e w2 ⟨rfl, hbw2⟩; replace B1 := Blk.belowOf B1 hbw2 (by repeat (first | exact B1 | apply Blk.alloc | apply Blk.drew | (apply Blk.far; rotate_left; (first | assumption | exact Ne.symm (by assumption))) | apply Blk.set_)); replace B2 := Blk.belowOf B2 hbw2 (by repeat (first | exact B2 | apply Blk.alloc | apply Blk.drew | (apply Blk.far; rotate_left; (first | assumption | exact Ne.symm (by assumption))) | apply Blk.set_))
    replace hb := thn hb hbw2
    clear cB1_0 cB1_1 cB1_2 fB1 cB2_0 cB2_1 cB2_2 fB2
    clear hbw2 hI
    have B3 := Blk.new w2 35 #[.int .i64 mb, .int .i64 ms, .bool mw]; have dB1B3 := Nat.ne_of_lt B1.lt; replace B1 := B1.alloc (.cells #[.int .i64 mb, .int .i64 ms, .bool mw] 35); have dB2B3 := Nat.ne_of_lt B2.lt; replace B2 := B2.alloc (.cells #[.int .i64 mb, .int .i64 ms, .bool mw] 35)
    have cB1_0 := B1.c0; have cB1_1 := B1.c1; have cB1_2 := B1.c2; have fB1 := B1.frozen; have cB2_0 := B2.c0; have cB2_1 := B2.c1; have cB2_2 := B2.c2; have fB2 := B2.frozen; have cB3_0 := B3.c0; have cB3_1 := B3.c1; have cB3_2 := B3.c2; have fB3 := B3.frozen
    go_wp2_with fail; refine (hS _).mono ?_; rintro e w3 ⟨rfl, hbw3⟩; replace B1 := Blk.belowOf B1 hbw3 (by repeat (first | exact B1 | apply Blk.alloc | apply Blk.drew | (apply Blk.far; rotate_left; (first | assumption | exact Ne.symm (by assumption))) | apply Blk.set_)); replace B2 := Blk.belowOf B2 hbw3 (by repeat (first | exact B2 | apply Blk.alloc | apply Blk.drew | (apply Blk.far; rotate_left; (first | assumption | exact Ne.symm (by assumption))) | apply Blk.set_)); replace B3 := Blk.belowOf B3 hbw3 (by repeat (first | exact B3 | apply Blk.alloc | apply Blk.drew | (apply Blk.far; rotate_left; (first | assumption | exact Ne.symm (by assumption))) | apply Blk.set_))
    replace hb := thn (alo hb _) hbw3
    clear cB1_0 cB1_1 cB1_2 fB1 cB2_0 cB2_1 cB2_2 fB2 cB3_0 cB3_1 cB3_2 fB3
    clear hbw3 hS
    have B4 := Blk.new w3 35 #[.int .i64 mb, .int .i64 ms, .bool mw]; have dB1B4 := Nat.ne_of_lt B1.lt; replace B1 := B1.alloc (.cells #[.int .i64 mb, .int .i64 ms, .bool mw] 35); have dB2B4 := Nat.ne_of_lt B2.lt; replace B2 := B2.alloc (.cells #[.int .i64 mb, .int .i64 ms, .bool mw] 35); have dB3B4 := Nat.ne_of_lt B3.lt; replace B3 := B3.alloc (.cells #[.int .i64 mb, .int .i64 ms, .bool mw] 35)
    have cB1_0 := B1.c0; have cB1_1 := B1.c1; have cB1_2 := B1.c2; have fB1 := B1.frozen; have cB2_0 := B2.c0; have cB2_1 := B2.c1; have cB2_2 := B2.c2; have fB2 := B2.frozen; have cB3_0 := B3.c0; have cB3_1 := B3.c1; have cB3_2 := B3.c2; have fB3 := B3.frozen; have cB4_0 := B4.c0; have cB4_1 := B4.c1; have cB4_2 := B4.c2; have fB4 := B4.frozen
    go_wp2_with fail; refine (hJ _).mono ?_; rintro e w4 ⟨rfl, hbw4⟩; replace B1 := Blk.belowOf B1 hbw4 (by repeat (first | exact B1 | apply Blk.alloc | apply Blk.drew | (apply Blk.far; rotate_left; (first | assumption | exact Ne.symm (by assumption))) | apply Blk.set_)); replace B2 := Blk.belowOf B2 hbw4 (by repeat (first | exact B2 | apply Blk.alloc | apply Blk.drew | (apply Blk.far; rotate_left; (first | assumption | exact Ne.symm (by assumption))) | apply Blk.set_)); replace B3 := Blk.belowOf B3 hbw4 (by repeat (first | exact B3 | apply Blk.alloc | apply Blk.drew | (apply Blk.far; rotate_left; (first | assumption | exact Ne.symm (by assumption))) | apply Blk.set_)); replace B4 := Blk.belowOf B4 hbw4 (by repeat (first | exact B4 | apply Blk.alloc | apply Blk.drew | (apply Blk.far; rotate_left; (first | assumption | exact Ne.symm (by assumption))) | apply Blk.set_))
    replace hb := thn (alo hb _) hbw4
    clear cB1_0 cB1_1 cB1_2 fB1 cB2_0 cB2_1 cB2_2 fB2 cB3_0 cB3_1 cB3_2 fB3 cB4_0 cB4_1 cB4_2 fB4
    clear hbw4 hJ
    have B5 := Blk.new w4 35 #[.int .i64 mb, .int .i64 ms, .bool mw]; have dB1B5 := Nat.ne_of_lt B1.lt; replace B1 := B1.alloc (.cells #[.int .i64 mb, .int .i64 ms, .bool mw] 35); have dB2B5 := Nat.ne_of_lt B2.lt; replace B2 := B2.alloc (.cells #[.int .i64 mb, .int .i64 ms, .bool mw] 35); have dB3B5 := Nat.ne_of_lt B3.lt; replace B3 := B3.alloc (.cells #[.int .i64 mb, .int .i64 ms, .bool mw] 35); have dB4B5 := Nat.ne_of_lt B4.lt; replace B4 := B4.alloc (.cells #[.int .i64 mb, .int .i64 ms, .bool mw] 35)
    have cB1_0 := B1.c0; have cB1_1 := B1.c1; have cB1_2 := B1.c2; have fB1 := B1.frozen; have cB2_0 := B2.c0; have cB2_1 := B2.c1; have cB2_2 := B2.c2; have fB2 := B2.frozen; have cB3_0 := B3.c0; have cB3_1 := B3.c1; have cB3_2 := B3.c2; have fB3 := B3.frozen; have cB4_0 := B4.c0; have cB4_1 := B4.c1; have cB4_2 := B4.c2; have fB4 := B4.frozen; have cB5_0 := B5.c0; have cB5_1 := B5.c1; have cB5_2 := B5.c2; have fB5 := B5.frozen
    cases ok
    · have hm := hno _ rfl
      injection hm with e1 e2 e3
      subst e1 e2 e3
      clear hno hyes hself hK
      go_wp2_with fail; refine (alive_any _).mono ?_; rintro e w5 ⟨rfl, hbw5⟩; replace B1 := Blk.belowOf B1 hbw5 (by repeat (first | exact B1 | apply Blk.alloc | apply Blk.drew | (apply Blk.far; rotate_left; (first | assumption | exact Ne.symm (by assumption))) | apply Blk.set_)); replace B2 := Blk.belowOf B2 hbw5 (by repeat (first | exact B2 | apply Blk.alloc | apply Blk.drew | (apply Blk.far; rotate_left; (first | assumption | exact Ne.symm (by assumption))) | apply Blk.set_)); replace B3 := Blk.belowOf B3 hbw5 (by repeat (first | exact B3 | apply Blk.alloc | apply Blk.drew | (apply Blk.far; rotate_left; (first | assumption | exact Ne.symm (by assumption))) | apply Blk.set_)); replace B4 := Blk.belowOf B4 hbw5 (by repeat (first | exact B4 | apply Blk.alloc | apply Blk.drew | (apply Blk.far; rotate_left; (first | assumption | exact Ne.symm (by assumption))) | apply Blk.set_)); replace B5 := Blk.belowOf B5 hbw5 (by repeat (first | exact B5 | apply Blk.alloc | apply Blk.drew | (apply Blk.far; rotate_left; (first | assumption | exact Ne.symm (by assumption))) | apply Blk.set_))
      go_wp2
      go_ret
      exact ⟨rfl, thn (alo hb _) hbw5⟩
    · obtain ⟨y1, yB, y2, y3, y4, y5, y6, y7⟩ := hyes _ rfl
      have y8 := hself y1
      subst y8
      simp only [] at y3 y4 y5 y6 y7
      have yb := Win.ok_true.1 y1
      have yd := Win.ok_true.1 yB
      have yc := Win.ok_true.1 y2
      simp only [] at yb yc yd
      obtain ⟨d1, d2, d3, d4⟩ := yd
      obtain ⟨b1, b2, b3, b4⟩ := yb
      obtain ⟨m1, m2, m3, m4⟩ := yc
      replace y2 := winsOk_one y2
      clear hno hyes hself y1 yB
      simp only [] at hK
      go_wp2_with fail; refine (hK _).mono ?_; rintro e w5 ⟨rfl, hbw5⟩; replace B1 := Blk.belowOf B1 hbw5 (by repeat (first | exact B1 | apply Blk.alloc | apply Blk.drew | (apply Blk.far; rotate_left; (first | assumption | exact Ne.symm (by assumption))) | apply Blk.set_)); replace B2 := Blk.belowOf B2 hbw5 (by repeat (first | exact B2 | apply Blk.alloc | apply Blk.drew | (apply Blk.far; rotate_left; (first | assumption | exact Ne.symm (by assumption))) | apply Blk.set_)); replace B3 := Blk.belowOf B3 hbw5 (by repeat (first | exact B3 | apply Blk.alloc | apply Blk.drew | (apply Blk.far; rotate_left; (first | assumption | exact Ne.symm (by assumption))) | apply Blk.set_)); replace B4 := Blk.belowOf B4 hbw5 (by repeat (first | exact B4 | apply Blk.alloc | apply Blk.drew | (apply Blk.far; rotate_left; (first | assumption | exact Ne.symm (by assumption))) | apply Blk.set_)); replace B5 := Blk.belowOf B5 hbw5 (by repeat (first | exact B5 | apply Blk.alloc | apply Blk.drew | (apply Blk.far; rotate_left; (first | assumption | exact Ne.symm (by assumption))) | apply Blk.set_))
      replace hb := thn (alo hb _) hbw5
      clear cB1_0 cB1_1 cB1_2 fB1 cB2_0 cB2_1 cB2_2 fB2 cB3_0 cB3_1 cB3_2 fB3 cB4_0 cB4_1 cB4_2 fB4 cB5_0 cB5_1 cB5_2 fB5
      clear hbw5 hK
      have B6 := Blk.new w5 35 #[.int .i64 ab, .int .i64 az, .bool aw]; have dB1B6 := Nat.ne_of_lt B1.lt; replace B1 := B1.alloc (.cells #[.int .i64 ab, .int .i64 az, .bool aw] 35); have dB2B6 := Nat.ne_of_lt B2.lt; replace B2 := B2.alloc (.cells #[.int .i64 ab, .int .i64 az, .bool aw] 35); have dB3B6 := Nat.ne_of_lt B3.lt; replace B3 := B3.alloc (.cells #[.int .i64 ab, .int .i64 az, .bool aw] 35); have dB4B6 := Nat.ne_of_lt B4.lt; replace B4 := B4.alloc (.cells #[.int .i64 ab, .int .i64 az, .bool aw] 35); have dB5B6 := Nat.ne_of_lt B5.lt; replace B5 := B5.alloc (.cells #[.int .i64 ab, .int .i64 az, .bool aw] 35)
      have cB1_0 := B1.c0; have cB1_1 := B1.c1; have cB1_2 := B1.c2; have fB1 := B1.frozen; have cB2_0 := B2.c0; have cB2_1 := B2.c1; have cB2_2 := B2.c2; have fB2 := B2.frozen; have cB3_0 := B3.c0; have cB3_1 := B3.c1; have cB3_2 := B3.c2; have fB3 := B3.frozen; have cB4_0 := B4.c0; have cB4_1 := B4.c1; have cB4_2 := B4.c2; have fB4 := B4.frozen; have cB5_0 := B5.c0; have cB5_1 := B5.c1; have cB5_2 := B5.c2; have fB5 := B5.frozen; have cB6_0 := B6.c0; have cB6_1 := B6.c1; have cB6_2 := B6.c2; have fB6 := B6.frozen
      have hV := windowsValid_any (some ⟨w5.heap.size + 1, 0, none⟩) 1 1 [⟨mb, ms, mw⟩] _ (Sl.of_blk (xs := [⟨mb, ms, mw⟩]) (Blk.new2 w5 (.cells #[.int .i64 ab, .int .i64 az, .bool aw] 35) 35 #[.int .i64 mb, .int .i64 ms, .bool mw]) encW (by simp))
      rw [y2] at hV
      clear y2
      skip
      go_wp2_with fail; refine (hV).mono ?_; rintro e w6 ⟨rfl, hbw6⟩
      go_wp2
      go_ret
      exact ⟨rfl, thn (alo (alo hb _) _) hbw6⟩
  · clear h
    go_enter Try.func5, Try.ntmps5
    go_wp2
    go_ret
    exact ⟨rfl, Below.refl _ _⟩
end Go.Proofs.Ytmlodhogfejdjaa
