/- The walk of FnWindowsValid. -/
import Derived.Test.YtmlodhogfejdjaaDWin
import Derived.Test.YtmlodhogfejdjaaSWin
namespace Go.Proofs.Ytmlodhogfejdjaa
open Go.RowKit

theorem winsOk_bad (xs : List Win) : winsOk (xs ++ [⟨0, 0, false⟩]) = false := by
  simp [winsOk, Win.ok, inB]
theorem winsOk_take (xs : List Win) (j : Nat) (h : winsOk xs = true) : winsOk (xs.take j) = true := by
  rw [winsOk_true] at h ⊢
  exact ⟨by rw [List.length_take]; omega, fun x hx => h.2 x (List.mem_of_mem_take hx)⟩

theorem lawWindowsValid (A : Option Addr) (n c : Nat) (zs : List Int) (w : World) (h : Code w A n c zs) :
    Calls Try.prog 4 #[.slice A n c] w fun e w' => .returned (.bool true) = e ∧ Below w.heap.size w w' := by
  have hle := h.le
  have hmax := h.max
  by_cases hn : n ≤ 1048576
  · have hdraw := drawWindowsValid_any A n c zs w h
    clear h
    go_enter Try.func4, Try.ntmps4
    go_wp2_with fail
    refine hdraw.mono ?_
    rintro e w1 ⟨⟨A1, n1, c1, xs⟩, rfl, ⟨hsl, _, hnil, _⟩, hn1, _, hb⟩
    clear hdraw
    simp only [SV.v] at hsl hnil hn1 ⊢
    obtain rfl : xs.length = n1 := hsl.len
    have hle1 := hsl.le
    have hmax1 := hsl.max
    have hI := fun W h => windowsValid_any A1 xs.length c1 xs W h
    have hS := fun W h => specWindowsValid_any A1 xs.length c1 xs W h
    have hv : winsOk xs = true → ∀ j, winsOk (xs.take j) = true := fun h j => winsOk_take xs j h
    generalize winsOk xs = v at *
    skip
    cases v
    · clear hv
      go_wp2_with fail; refine (hI _ hsl).mono ?_; rintro e w2 ⟨rfl, hbw2⟩
      have hsl2 := hsl.below hbw2
      go_wp2_with fail; refine (hS _ hsl2).mono ?_; rintro e w3 ⟨rfl, hbw3⟩
      have hsl3 := hsl2.below hbw3
      have hB3 : Below w.heap.size w w3 := (by repeat (first | exact Below.refl _ _ | assumption | apply alo | (apply Below.setCell; rotate_left; (first | assumption | exact Nat.le_refl _ | (simp only []; omega))) | apply Below.drew | apply belowDrewN | (refine thn ?_ (by assumption))))
      clear hI hS hsl hsl2 hb hbw2 hbw3
      have own0 : Own (w3.alloc (.cells #[] 35)) w3.heap.size 35 3 Win.cells _ ([] : List Win) := Own.of_blk (Blk.new w3 35 #[]) (Nat.le_refl _) encW (by simp [maxLen])
      have hB4 := (Below.refl w3.heap.size w3).alloc (Nat.le_refl _) (.cells #[] 35)
      have hlen1 : xs.length + 1 ≤ 100000000 := by omega
      go_wp2_with (first
        | (at_builtin; refine app_own rfl _ _ appWin rfl encW w3.heap.size _ [] rfl own0 _ _ _ xs rfl hnil (hsl3.below hB4) (by simp; omega) hB4.size ?_; intro v5 w5 own5 hg5; have hB5 := belowApp hB4 own0 hg5 (Nat.le_refl _) hB4.size; clear hg5 own0 hB4; simp only [List.nil_append] at own5; have own6 := own5.alloc (.cells #[.int .i64 0, .int .i64 0, .bool false] 35); have src6 : Sl (w5.alloc (.cells #[.int .i64 0, .int .i64 0, .bool false] 35)) 3 Win.cells (some ⟨w5.heap.size, 0, none⟩) 1 1 [⟨0, 0, false⟩] := Sl.of_blk (xs := [⟨0, 0, false⟩]) (Blk.new w5 35 #[.int .i64 0, .int .i64 0, .bool false]) encW (by simp); have hB6 := hB5.alloc hB5.size (.cells #[.int .i64 0, .int .i64 0, .bool false] 35))
        | (at_builtin; refine app_own rfl _ _ appWin rfl encW w3.heap.size _ xs rfl own6 _ _ _ [⟨0, 0, false⟩] rfl (fun e => by cases e) src6 hlen1 hB6.size ?_; intro v7 w7 own7 hg7; have hB7 := belowApp hB6 own6 hg7 (Nat.le_refl _) hB6.size; clear hg7 own6 own5 src6 hB6 hlen1 hB5))
      obtain ⟨A7, c7, rfl, _, hsl7, _⟩ := own7.sl encW
      clear own7
      have hJ := windowsValid_any A7 _ c7 _ _ hsl7
      rw [winsOk_bad] at hJ
      go_wp2_with fail; refine (hJ).mono ?_; rintro e w8 ⟨rfl, hbw8⟩
      go_wp2_with fail; refine (alive_any _).mono ?_; rintro e w9 ⟨rfl, hbw9⟩
      go_wp2
      go_ret
      exact ⟨rfl, thn (thn (thn hB3 hB7) hbw8) hbw9⟩
    · replace hv := Lib.hid (hv rfl)
      go_wp2_with fail; refine (hI _ hsl).mono ?_; rintro e w2 ⟨rfl, hbw2⟩
      have hsl2 := hsl.below hbw2
      go_wp2_with fail; refine (hS _ hsl2).mono ?_; rintro e w2b ⟨rfl, hbw2b⟩
      have hsl3 := hsl2.below hbw2b
      have hB3 : Below w.heap.size w w2b := (by repeat (first | exact Below.refl _ _ | assumption | apply alo | (apply Below.setCell; rotate_left; (first | assumption | exact Nat.le_refl _ | (simp only []; omega))) | apply Below.drew | apply belowDrewN | (refine thn ?_ (by assumption))))
      clear hI hS hsl hsl2 hb hbw2 hbw2b
      have hT := windowsValid_any A1 (xs.length / 2) c1 _ _ (hsl3.take_ (xs.length / 2) (by omega))
      rw [hv.out] at hT
      clear hv
      go_wp2_with fail; refine (hT).mono ?_; rintro e w3 ⟨rfl, hbw3⟩
      have hsl4 := hsl3.below hbw3
      replace hB3 := thn hB3 hbw3
      clear hsl3 hT
      have own0 : Own (w3.alloc (.cells #[] 35)) w3.heap.size 35 3 Win.cells _ ([] : List Win) := Own.of_blk (Blk.new w3 35 #[]) (Nat.le_refl _) encW (by simp [maxLen])
      have hB4 := (Below.refl w3.heap.size w3).alloc (Nat.le_refl _) (.cells #[] 35)
      have hlen1 : xs.length + 1 ≤ 100000000 := by omega
      go_wp2_with (first
        | (at_builtin; refine app_own rfl _ _ appWin rfl encW w3.heap.size _ [] rfl own0 _ _ _ xs rfl hnil (hsl4.below hB4) (by simp; omega) hB4.size ?_; intro v5 w5 own5 hg5; have hB5 := belowApp hB4 own0 hg5 (Nat.le_refl _) hB4.size; clear hg5 own0 hB4; simp only [List.nil_append] at own5; have own6 := own5.alloc (.cells #[.int .i64 0, .int .i64 0, .bool false] 35); have src6 : Sl (w5.alloc (.cells #[.int .i64 0, .int .i64 0, .bool false] 35)) 3 Win.cells (some ⟨w5.heap.size, 0, none⟩) 1 1 [⟨0, 0, false⟩] := Sl.of_blk (xs := [⟨0, 0, false⟩]) (Blk.new w5 35 #[.int .i64 0, .int .i64 0, .bool false]) encW (by simp); have hB6 := hB5.alloc hB5.size (.cells #[.int .i64 0, .int .i64 0, .bool false] 35))
        | (at_builtin; refine app_own rfl _ _ appWin rfl encW w3.heap.size _ xs rfl own6 _ _ _ [⟨0, 0, false⟩] rfl (fun e => by cases e) src6 hlen1 hB6.size ?_; intro v7 w7 own7 hg7; have hB7 := belowApp hB6 own6 hg7 (Nat.le_refl _) hB6.size; clear hg7 own6 own5 src6 hB6 hlen1 hB5))
      obtain ⟨A7, c7, rfl, _, hsl7, _⟩ := own7.sl encW
      clear own7
      have hJ := windowsValid_any A7 _ c7 _ _ hsl7
      rw [winsOk_bad] at hJ
      go_wp2_with fail; refine (hJ).mono ?_; rintro e w8 ⟨rfl, hbw8⟩
      go_wp2_with fail; refine (alive_any _).mono ?_; rintro e w9 ⟨rfl, hbw9⟩
      go_wp2
      go_ret
      exact ⟨rfl, thn (thn (thn hB3 hB7) hbw8) hbw9⟩
  · clear h
    go_enter Try.func4, Try.ntmps4
    go_wp2
    go_ret
    exact ⟨rfl, Below.refl _ _⟩
end Go.Proofs.Ytmlodhogfejdjaa
