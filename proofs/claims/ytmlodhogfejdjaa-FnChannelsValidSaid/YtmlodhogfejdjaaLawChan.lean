/- The walk of FnChannelsValid. -/
import Derived.Test.YtmlodhogfejdjaaNet
import Derived.Test.YtmlodhogfejdjaaChanV
import Derived.Test.YtmlodhogfejdjaaAlive
namespace Go.Proofs.Ytmlodhogfejdjaa
open Go.RowKit

theorem chansOk_bad (xs : List (Int × Int × Int × Int)) (p : Int) : chansOk (xs ++ [(2, 0, 0, 1)]) p = false := by simp [chansOk, chanOk]
theorem chansOk_half (xs : List (Int × Int × Int × Int)) (p : Int) (k : Nat) (h : chansOk xs p = true) : chansOk (xs.take k) p = true := by
  simp only [chansOk, Bool.and_eq_true, decide_eq_true_eq, List.all_eq_true] at h ⊢
  obtain ⟨h1, h2, h3⟩ := h
  exact ⟨h1, by rw [List.length_take]; omega, fun x hx => h3 x (List.mem_of_mem_take hx)⟩

set_option maxHeartbeats 1000000 in
theorem lawChannelsValid (A : Option Addr) (n c : Nat) (zs : List Int) (w : World) (h : Code w A n c zs) :
    Calls Try.prog 6 #[.slice A n c] w fun e w' => .returned (.bool true) = e ∧ Below w.heap.size w w' := by
  have hle := h.le
  have hmax := h.max
  by_cases hn : n ≤ 1048576
  · have hdraw := drawChannelsValid_any A n c zs w h
    clear h
    go_enter Try.func6, Try.ntmps6
    go_wp2_with fail
    refine hdraw.mono ?_
    rintro e w1 ⟨⟨⟨A1, n1, c1, xs⟩, p⟩, rfl, ⟨hsl, _, hnil, _⟩, hn1, _, hp, hb⟩
    clear hdraw
    simp only [netV, SV.v] at hsl hnil hn1 hp ⊢
    obtain rfl : xs.length = n1 := hsl.len
    have hle1 := hsl.le
    have hmax1 := hsl.max
    have hI := fun W h => channelsValid_any A1 xs.length c1 xs p W h
    have hS := fun W h => specChannelsValid_any A1 xs.length c1 xs p (by omega) W h
    have hv := chansOk_half xs p (xs.length / 2)
    obtain ⟨hp0, hp1⟩ := hp
    generalize chansOk xs p = v at *
    skip
    cases v
    · clear hv
      go_wp2_with fail; refine (hI _ hsl).mono ?_; rintro e w2 ⟨rfl, hbw2⟩
      have hsl2 := hsl.below hbw2
      go_wp2_with fail; refine (hS _ hsl2).mono ?_; rintro e w3 ⟨rfl, hbw3⟩
      have hsl3 := hsl2.below hbw3
      have hB3 : Below w.heap.size w w3 := (by repeat (first | exact Below.refl _ _ | assumption | apply alo | (apply Below.setCell; rotate_left; (first | assumption | exact Nat.le_refl _ | (simp only []; omega))) | apply Below.drew | apply belowDrewN | (refine thn ?_ (by assumption))))
      clear hI hS hsl hsl2 hb hbw2 hbw3
      have own0 : Own (w3.alloc (.cells #[] 45)) w3.heap.size 45 4 eC _ ([] : List (Int × Int × Int × Int)) := Own.of_blk (Blk.new w3 45 #[]) (Nat.le_refl _) encC (by simp [maxLen])
      have hB4 := (Below.refl w3.heap.size w3).alloc (Nat.le_refl _) (.cells #[] 45)
      have hlen1 : xs.length + 1 ≤ 100000000 := by omega
      go_wp2_with (first
        | (at_builtin; refine app_own rfl _ _ appChan rfl encC w3.heap.size _ [] rfl own0 _ _ _ xs rfl hnil (hsl3.below hB4) (by simp; omega) hB4.size ?_; intro v5 w5 own5 hg5; have hB5 := belowApp hB4 own0 hg5 (Nat.le_refl _) hB4.size; clear hg5 own0 hB4; simp only [List.nil_append] at own5; have own6 := own5.alloc (.cells #[.int .i64 2, .int .i64 0, .int .i64 0, .int .i64 1] 45); have src6 : Sl (w5.alloc (.cells #[.int .i64 2, .int .i64 0, .int .i64 0, .int .i64 1] 45)) 4 eC (some ⟨w5.heap.size, 0, none⟩) 1 1 [(2, 0, 0, 1)] := Sl.of_blk (xs := [(2, 0, 0, 1)]) (Blk.new w5 45 #[.int .i64 2, .int .i64 0, .int .i64 0, .int .i64 1]) encC (by simp); have hB6 := hB5.alloc hB5.size (.cells #[.int .i64 2, .int .i64 0, .int .i64 0, .int .i64 1] 45))
        | (at_builtin; refine app_own rfl _ _ appChan rfl encC w3.heap.size _ xs rfl own6 _ _ _ [(2, 0, 0, 1)] rfl (fun e => by cases e) src6 hlen1 hB6.size ?_; intro v7 w7 own7 hg7; have hB7 := belowApp hB6 own6 hg7 (Nat.le_refl _) hB6.size; clear hg7 own6 own5 src6 hB6 hlen1 hB5))
      obtain ⟨A7, c7, rfl, _, hsl7, _⟩ := own7.sl encC
      clear own7
      have hJ := channelsValid_any A7 _ c7 _ p _ hsl7
      rw [chansOk_bad] at hJ
      go_wp2_with fail; refine (hJ).mono ?_; rintro e w8 ⟨rfl, hbw8⟩
      go_wp2_with fail; refine (alive_any _).mono ?_; rintro e w9 ⟨rfl, hbw9⟩
      go_wp2
      go_ret
      exact ⟨rfl, thn (thn (thn hB3 hB7) hbw8) hbw9⟩
    · replace hv := Lib.hid (hv rfl)
      go_wp2_with fail; refine (hI _ hsl).mono ?_; rintro e w2 ⟨rfl, hbw2⟩
      have hsl2 := hsl.below hbw2
      go_wp2_with fail; refine (hS _ hsl2).mono ?_; rintro e w3 ⟨rfl, hbw3⟩
      have hsl3 := hsl2.below hbw3
      have hB3 : Below w.heap.size w w3 := (by repeat (first | exact Below.refl _ _ | assumption | apply alo | (apply Below.setCell; rotate_left; (first | assumption | exact Nat.le_refl _ | (simp only []; omega))) | apply Below.drew | apply belowDrewN | (refine thn ?_ (by assumption))))
      clear hI hS hsl hsl2 hb hbw2 hbw3
      have own0 : Own (w3.alloc (.cells #[] 45)) w3.heap.size 45 4 eC _ ([] : List (Int × Int × Int × Int)) := Own.of_blk (Blk.new w3 45 #[]) (Nat.le_refl _) encC (by simp [maxLen])
      have hB4 := (Below.refl w3.heap.size w3).alloc (Nat.le_refl _) (.cells #[] 45)
      have hlen1 : xs.length + 1 ≤ 100000000 := by omega
      go_wp2_with (first
        | (at_builtin; refine app_own rfl _ _ appChan rfl encC w3.heap.size _ [] rfl own0 _ _ _ xs rfl hnil (hsl3.below hB4) (by simp; omega) hB4.size ?_; intro v5 w5 own5 hg5; have hB5 := belowApp hB4 own0 hg5 (Nat.le_refl _) hB4.size; clear hg5 own0 hB4; simp only [List.nil_append] at own5; have own6 := own5.alloc (.cells #[.int .i64 2, .int .i64 0, .int .i64 0, .int .i64 1] 45); have src6 : Sl (w5.alloc (.cells #[.int .i64 2, .int .i64 0, .int .i64 0, .int .i64 1] 45)) 4 eC (some ⟨w5.heap.size, 0, none⟩) 1 1 [(2, 0, 0, 1)] := Sl.of_blk (xs := [(2, 0, 0, 1)]) (Blk.new w5 45 #[.int .i64 2, .int .i64 0, .int .i64 0, .int .i64 1]) encC (by simp); have hB6 := hB5.alloc hB5.size (.cells #[.int .i64 2, .int .i64 0, .int .i64 0, .int .i64 1] 45))
        | (at_builtin; refine app_own rfl _ _ appChan rfl encC w3.heap.size _ xs rfl own6 _ _ _ [(2, 0, 0, 1)] rfl (fun e => by cases e) src6 hlen1 hB6.size ?_; intro v7 w7 own7 hg7; have hB7 := belowApp hB6 own6 hg7 (Nat.le_refl _) hB6.size; clear hg7 own6 own5 src6 hB6 hlen1 hB5))
      obtain ⟨A7, c7, rfl, _, hsl7, _⟩ := own7.sl encC
      clear own7
      have hT := channelsValid_any A1 (xs.length / 2) c1 _ p _ ((hsl3.below hB7).take_ (xs.length / 2) (by omega))
      rw [hv.out] at hT
      clear hv
      go_wp2_with fail; refine (hT).mono ?_; rintro e w7b ⟨rfl, hbw7b⟩
      rw [show (xs ++ [((2 : Int), (0 : Int), (0 : Int), (1 : Int))]).length = xs.length + 1 by simp] at hsl7
      have hJ := channelsValid_any A7 _ c7 _ p _ (hsl7.below hbw7b)
      rw [chansOk_bad] at hJ
      clear hT hsl7 hsl3
      go_wp2_with fail; refine (hJ).mono ?_; rintro e w8 ⟨rfl, hbw8⟩
      go_wp2_with fail; refine (alive_any _).mono ?_; rintro e w9 ⟨rfl, hbw9⟩
      go_wp2
      go_ret
      exact ⟨rfl, thn (thn (thn (thn hB3 hB7) hbw7b) hbw8) hbw9⟩
  · clear h
    go_enter Try.func6, Try.ntmps6
    go_wp2
    go_ret
    exact ⟨rfl, Below.refl _ _⟩
end Go.Proofs.Ytmlodhogfejdjaa
