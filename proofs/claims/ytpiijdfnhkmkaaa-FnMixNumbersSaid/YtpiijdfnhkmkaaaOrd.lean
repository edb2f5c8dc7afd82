/- Orders: OrderNumber, OrderFrom of impl and spec. -/
import Derived.Test.YtpiijdfnhkmkaaaWin
namespace Go.Proofs.Ytpiijdfnhkmkaaa
open Go.RowKit

theorem l1In_any (n lo hi : Int) (w : World) : Calls Try.prog 53 #[.int .i64 n, .int .i64 lo, .int .i64 hi] w fun e w' => .returned (.bool (inB n lo hi)) = e ∧ w = w' := by
  cases hb : inB n lo hi
  · rw [inB_false] at hb
    by_cases h1 : lo ≤ n
    · have h2 : ¬ n ≤ hi := by omega
      clear hb
      go_enter Try.func53, Try.ntmps53
      go_wp2
      go_ret
      exact ⟨rfl, rfl⟩
    · clear hb
      go_enter Try.func53, Try.ntmps53
      go_wp2
      go_ret
      exact ⟨rfl, rfl⟩
  · rw [inB_true] at hb
    obtain ⟨h1, h2⟩ := hb
    go_enter Try.func53, Try.ntmps53
    go_wp2
    go_ret
    exact ⟨rfl, rfl⟩

def ordNum (op a b : Int) : Int := if inB op 0 15 && (inB a 0 255 && inB b 0 255) then op + 16 * (a + 256 * b) else -1

theorem ordNum_any (op a b : Int) (w : World) : Calls Try.prog 16 #[.agg #[.int .i64 op, .int .i64 a, .int .i64 b]] w fun e w' => .returned (.int .i64 (ordNum op a b)) = e ∧ Below w.heap.size w w' := by
  unfold ordNum
  have h1 := @inB_true op 0 15
  have h2 := @inB_true a 0 255
  have h3 := @inB_true b 0 255
  have c1 := fun W => in_any op 0 15 W
  have c2 := fun W => in_any a 0 255 W
  have c3 := fun W => in_any b 0 255 W
  generalize inB op 0 15 = v1 at *
  generalize inB a 0 255 = v2 at *
  generalize inB b 0 255 = v3 at *
  cases v1 <;> cases v2 <;> cases v3
  all_goals
    simp only [Bool.false_eq_true, false_iff, true_iff] at h1 h2 h3
    go_enter Try.func16, Try.ntmps16
    go_wp2_with fail
    refine (c1 _).mono ?_; rintro e w' ⟨rfl, rfl⟩
    go_wp2_with fail
    try (refine (c2 _).mono ?_; rintro e w' ⟨rfl, rfl⟩; go_wp2_with fail)
    try (refine (c3 _).mono ?_; rintro e w' ⟨rfl, rfl⟩; go_wp2)
    go_ret
    exact ⟨rfl, (Below.refl _ _).alloc (Nat.le_refl _) _⟩
theorem specOrdNum_any (op a b : Int) (w : World) : Calls Try.prog 17 #[.agg #[.int .i64 op, .int .i64 a, .int .i64 b]] w fun e w' => .returned (.int .i64 (ordNum op a b)) = e ∧ Below w.heap.size w w' := by
  unfold ordNum
  have h1 := @inB_true op 0 15
  have h2 := @inB_true a 0 255
  have h3 := @inB_true b 0 255
  have c1 := fun W => l1In_any op 0 15 W
  have c2 := fun W => l1In_any a 0 255 W
  have c3 := fun W => l1In_any b 0 255 W
  generalize inB op 0 15 = v1 at *
  generalize inB a 0 255 = v2 at *
  generalize inB b 0 255 = v3 at *
  cases v1 <;> cases v2 <;> cases v3
  all_goals
    simp only [Bool.false_eq_true, false_iff, true_iff] at h1 h2 h3
    go_enter Try.func17, Try.ntmps17
    go_wp2_with fail
    refine (c1 _).mono ?_; rintro e w' ⟨rfl, rfl⟩
    go_wp2_with fail
    try (refine (c2 _).mono ?_; rintro e w' ⟨rfl, rfl⟩; go_wp2_with fail)
    try (refine (c3 _).mono ?_; rintro e w' ⟨rfl, rfl⟩; go_wp2)
    go_ret
    exact ⟨rfl, (Below.refl _ _).alloc (Nat.le_refl _) _⟩

def ordFrom (n : Int) : Int × Int × Int × Bool := if inB n 0 1048575 then (n % 16, n / 16 % 256, n / 4096, true) else (0, 0, 0, false)

theorem ordFrom_any (n : Int) (w : World) : Calls Try.prog 20 #[.int .i64 n] w fun e w' => .returned (.tuple #[.agg #[.int .i64 (ordFrom n).1, .int .i64 (ordFrom n).2.1, .int .i64 (ordFrom n).2.2.1], .bool (ordFrom n).2.2.2]) = e ∧ Below w.heap.size w w' := by
  unfold ordFrom
  have h1 := @inB_true n 0 1048575
  have c1 := fun W => in_any n 0 1048575 W
  generalize inB n 0 1048575 = v at *
  cases v
  · simp only [Bool.false_eq_true, false_iff] at h1
    simp only [Bool.false_eq_true, if_false]
    go_enter Try.func20, Try.ntmps20
    go_wp2_with fail
    refine (c1 _).mono ?_; rintro e w' ⟨rfl, rfl⟩
    go_wp2
    refine bodyPost_ret (v := .tuple #[.agg #[.int .i64 0, .int .i64 0, .int .i64 0], .bool false]) (by simp [results, Try.results20, go_sem]) rfl ⟨rfl, ?_⟩
    exact (((((Below.refl _ _).alloc (Nat.le_refl _) _)))).trans (by repeat (first | exact Below.refl _ _ | apply Below.setCell))
  · simp only [true_iff] at h1
    obtain ⟨h1, h2⟩ := h1
    simp only [if_true]
    go_enter Try.func20, Try.ntmps20
    go_wp2_with fail
    refine (c1 _).mono ?_; rintro e w' ⟨rfl, rfl⟩
    go_wp2
    refine bodyPost_ret (v := .tuple #[.agg #[.int .i64 (n % 16), .int .i64 (n / 16 % 256), .int .i64 (n / 4096)], .bool true]) (by simp [results, Try.results20, go_sem]) rfl ⟨rfl, ?_⟩
    exact (Below.refl _ _).alloc (Nat.le_refl _) _

theorem specOrdFrom_any (n : Int) (w : World) : Calls Try.prog 21 #[.int .i64 n] w fun e w' => .returned (.tuple #[.agg #[.int .i64 (ordFrom n).1, .int .i64 (ordFrom n).2.1, .int .i64 (ordFrom n).2.2.1], .bool (ordFrom n).2.2.2]) = e ∧ Below w.heap.size w w' := by
  unfold ordFrom
  have h1 := @inB_true n 0 1048575
  have c1 := fun W => l1In_any n 0 1048575 W
  generalize inB n 0 1048575 = v at *
  cases v
  · simp only [Bool.false_eq_true, false_iff] at h1
    simp only [Bool.false_eq_true, if_false]
    go_enter Try.func21, Try.ntmps21
    go_wp2_with fail
    refine (c1 _).mono ?_; rintro e w' ⟨rfl, rfl⟩
    go_wp2
    refine bodyPost_ret (v := .tuple #[.agg #[.int .i64 0, .int .i64 0, .int .i64 0], .bool false]) (by simp [results, Try.results21, go_sem]) rfl ⟨rfl, ?_⟩
    exact (((((Below.refl _ _).alloc (Nat.le_refl _) _)))).trans (by repeat (first | exact Below.refl _ _ | apply Below.setCell))
  · simp only [true_iff] at h1
    obtain ⟨h1, h2⟩ := h1
    simp only [if_true]
    go_enter Try.func21, Try.ntmps21
    go_wp2_with fail
    refine (c1 _).mono ?_; rintro e w' ⟨rfl, rfl⟩
    go_wp2
    refine bodyPost_ret (v := .tuple #[.agg #[.int .i64 (n % 16), .int .i64 (n / 16 % 256), .int .i64 (n / 4096)], .bool true]) (by simp [results, Try.results21, go_sem]) rfl ⟨rfl, ?_⟩
    exact (Below.refl _ _).alloc (Nat.le_refl _) _
end Go.Proofs.Ytpiijdfnhkmkaaa
